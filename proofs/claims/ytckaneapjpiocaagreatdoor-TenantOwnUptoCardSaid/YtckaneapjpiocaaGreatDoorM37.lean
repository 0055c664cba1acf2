/- The texts Pa, Rf1 in one file. -/
import Derived.Test.YtckaneapjpiocaaGreatDoorM33
import Derived.Test.YtckaneapjpiocaaGreatDoorM36
import Derived.Test.YtckaneapjpiocaaGreatDoorM32
import Derived.Test.YtckaneapjpiocaaGreatDoorM11
import Derived.Test.YtckaneapjpiocaaGreatDoorM18
import Derived.Test.YtckaneapjpiocaaGreatDoorM19
import Derived.Test.YtckaneapjpiocaaGreatDoorM2
namespace Go.Proofs.YtckaneapjpiocaaGreatDoor
open Go.RowKit Go.Maps Go.Sort Go.Shelf
set_option linter.unusedVariables false
set_option linter.unusedSimpArgs false
theorem key_small (t : Tnt) (h : tenB t = true) : ∀ p ∈ objT t, p.1.size ≤ 200 := by
  simp only [tenB, Bool.and_eq_true, decide_eq_true_eq] at h
  obtain ⟨hn, _, _, hs, hg, hst, hl, hl2⟩ := h
  have hn := name_size hn
  simp only [setsB, Bool.and_eq_true, List.all_eq_true] at hs
  simp only [stsB, Bool.and_eq_true, List.all_eq_true] at hst
  have k1 : kT.size = 1 := rfl
  have k2 : kS.size = 1 := rfl
  have k3 : kG.size = 1 := rfl
  intro x hx
  simp only [objT, List.mem_cons, List.mem_append, List.mem_map] at hx
  rcases hx with rfl | ⟨s, hs', rfl⟩ | ⟨s, hs', rfl⟩
  · have := key_size [kT, t.name]
    simp only [List.map_cons, List.map_nil, List.sum_cons, List.sum_nil] at this
    show (keyO [kT, t.name]).size ≤ 200
    omega
  · obtain ⟨_, _, _, d1⟩ := dst_small _ s (hs.2.2.1 s hs')
    have := key_size [kS, t.name, s.path]
    simp only [List.map_cons, List.map_nil, List.sum_cons, List.sum_nil] at this
    show (keyO [kS, t.name, s.path]).size ≤ 200
    omega
  · obtain ⟨_, _, _, d1⟩ := stg_small s (hst.2.1 s hs')
    have := key_size [kG, t.name, s.into]
    simp only [List.map_cons, List.map_nil, List.sum_cons, List.sum_nil] at this
    show (keyO [kG, t.name, s.into]).size ≤ 200
    omega
theorem obs_at {w w' : World} {t : Tnt} (ht : tenB t = true) {A : Option Addr} {c : Nat} {os : List Ob} (ho : os.map obk = obL t) (H : Heap w (.row 56 3 (.slice A os.length c) os.length (os.flatMap Ob.cells) :: os.map datIt) w') :
    Sl.At w' 0 w'.heap.size Ob.cells (Ob.At w' 0 w'.heap.size) ⟨A, os.length, c, os⟩ ∧ (∀ o ∈ os, o.data.n ≤ 100000000) ∧ os.map kd = (objT t).map dat := by
  have hr := own_form2 (H.rowAt 0 rfl)
  have hrow : ∀ k (hk : k < os.length), w'.ownsRow w.heap.size 5 1 (.slice os[k].data.A os[k].data.n os[k].data.c) os[k].data.n (bytes os[k].data.xs) := fun k hk =>
    H.rowAt (k + 1) (by rw [List.getElem?_cons_succ, List.getElem?_map, List.getElem?_eq_getElem hk]; rfl)
  have hlen : ∀ o ∈ os, o.data.n = o.data.xs.length := fun o hm => by
    obtain ⟨k, hk, rfl⟩ := List.getElem_of_mem hm
    have := (hrow k hk).1
    rw [show (bytes os[k].data.xs).length = os[k].data.xs.length by simp [bytes]] at this
    omega
  have hmem : ∀ o ∈ os, ∃ p ∈ objT t, o.key = p.1 ∧ o.data.xs = flat p.2 ∧ o.locs = zL := fun o hm => by
    have h1 := List.mem_map_of_mem (f := obk) hm
    rw [ho, obL] at h1
    obtain ⟨p, hp, he⟩ := List.mem_map.1 h1
    have e1 : p.1 = o.key := congrArg (fun q => q.1) he
    have e2 : flat p.2 = o.data.xs := congrArg (fun q => q.2.1) he
    have e3 : zL = o.locs := congrArg (fun q => q.2.2) he
    exact ⟨p, hp, e1.symm, e2.symm, e3.symm⟩
  have hfit := obj_fit t ht
  have hwb : ∀ p ∈ objT t, wB p.2 = flat p.2 := fun p hp => by rw [wB, if_pos (hfit p hp)]
  refine ⟨⟨rfl, hr.1, hr.2, (H.rowRd 0 rfl).m0, fun o hm => ?_⟩, fun o hm => ?_, ?_⟩
  · obtain ⟨p, hp, h1, h2, h3⟩ := hmem o hm
    have hl := hlen o hm
    refine ⟨?_, ?_, ?_⟩
    · rw [h1]; exact Nat.le_trans (key_small t ht p hp) (by decide)
    · obtain ⟨k, hk, rfl⟩ := List.getElem_of_mem hm
      have q := own_form2 (hrow k hk)
      exact ⟨hl, q.1, q.2, by rw [octs_flat]; exact (Rd.of_own (hrow k hk)).m0, fun _ _ => trivial⟩
    · rw [h3]
      exact ⟨rfl, Nat.le_refl _, Nat.zero_le _, fun hn => absurd rfl hn, fun y hy => by cases hy⟩
  · obtain ⟨p, hp, h1, h2, h3⟩ := hmem o hm
    rw [hlen o hm, h2, ← hwb p hp]
    exact Nat.le_trans (wB_len p.2) (by decide)
  · have e : os.map kd = (os.map obk).map fun q => (q.1, q.2.1.length) := by
      rw [List.map_map]
      refine List.map_congr_left fun o hm => ?_
      show (o.key, o.data.n) = (o.key, o.data.xs.length)
      rw [hlen o hm]
    rw [e, ho, obL, List.map_map]
    refine List.map_congr_left fun p hp => ?_
    show (p.1, (flat p.2).length) = (p.1, (wB p.2).length)
    rw [hwb p hp]
open Go.RowKit Go.Maps Go.Sort Go.Shelf
set_option linter.unusedVariables false
set_option linter.unusedSimpArgs false
set_option maxRecDepth 100000 in
set_option maxHeartbeats 4000000 in
theorem rfind_any (w : World) (t : Tnt) (s : ByteArray) (h : Sl.At w 0 w.heap.size Dst.cells (Dst.At w 0 w.heap.size) t.sets) :
    Calls Tryz.prog 31 #[.agg t.cells.toArray, .string s] w fun e w' => e = .returned (.int .i64 (findI (fun x : Dst => decide (x.path = s)) t.sets.xs)) ∧ Ext w w' := by
  have HA := Lib.hid h
  have HAt := Lib.hid (findI_at (fun x : Dst => decide (x.path = s)) t.sets.xs)
  have HNo := Lib.hid (findI_none (fun x : Dst => decide (x.path = s)) t.sets.xs)
  generalize findI (fun x : Dst => decide (x.path = s)) t.sets.xs = V at *
  clear h
  obtain ⟨name, quota, next, ⟨A, n, c, xs⟩, ⟨gA, gn, gc, gs⟩, ⟨aA, an, ac, ax⟩, ⟨lA, ln, lc, ls⟩⟩ := t
  have Hn := Lib.hid (show n = xs.length from HA.out.len)
  have hm : n ≤ 9223372036854775807 := Nat.le_trans (Nat.le_trans HA.out.le HA.out.cap) (by decide)
  dsimp only at HAt HNo
  simp only [Tnt.cells, Sl.val]
  go_enter Tryz.func31, Tryz.ntmps31
  go_upto_region 1 with fail
  generalize hwH : World.alloc w _ = w1; have HH := Lib.hid (Heap.one hwH); clear hwH
  have c3 := (HH.out.boxAt 0 rfl).cell 3 _ rfl
  go_wp2_with fail
  go_loopw [5] (fun i wr => ∃ k : Nat, k ≤ n ∧ i = .int .i64 (k : Int) ∧ Hid (∀ x ∈ xs.take k, decide (x.path = s) = false) ∧ wr = w1) (fun i _ => n - (intOf i).toNat)
  case atStart => exact ⟨0, Nat.zero_le _, rfl, Lib.hid (by simp), rfl⟩
  case round =>
    obtain ⟨k, hk, rfl, HK, rfl⟩ := hrel
    by_cases hlt : k < n
    · have hl : k < xs.length := by rw [← Hn.out]; exact hlt
      obtain ⟨b1, o1, hA1, _, hb1, G0⟩ := rd_flat (size := 5) (fun _ => rfl) (by omega) (HA.out.rd.ext HH.out.ext (Nat.le_refl _)) hl
      dsimp only at hA1
      subst hA1
      have HY := Lib.hid (HAt.out k hl HK.out)
      have HT := Lib.hid (List.take_succ_eq_append_getElem hl)
      have HD := Lib.hid (toList_dec xs[k].path s)
      have g0 := G0 0 _ rfl
      generalize xs[k] = x at *
      have HE := Lib.hid HH.out.ext
      simp only [Nat.add_zero] at g0
      obtain ⟨y1, y2, y3, y4, y5⟩ := x
      dsimp only at HD HY g0
      clear G0
      by_cases he : y1 = s
      · have hd : (y1.toList == s.toList) = true := by rw [HD.out]; exact decide_eq_true he
        have HV := Lib.hid (HY.out (decide_eq_true he))
        clear he HY HD
        go_wp2_with fail
        go_ret
        exact ⟨by rw [HV.out]; rfl, HE.out⟩
      · have hd : (y1.toList == s.toList) = false := by rw [HD.out]; exact decide_eq_false he
        have he2 := Lib.hid he
        clear he HY HD
        go_wp2_with fail
        go_roundw
        case rel =>
          refine ⟨k + 1, by omega, by go_num, Lib.hid (fun z hz => ?_), by first | rfl | trivial⟩
          rw [HT.out] at hz
          rcases List.mem_append.1 hz with hz | hz
          · exact HK.out z hz
          · simp only [List.mem_singleton] at hz; subst hz; exact decide_eq_false he2.out
        case measure => (first | (simp [intOf]; done) | (simp [intOf]; omega))
    · obtain rfl : k = n := by omega
      have h1 := HK.out
      rw [List.take_of_length_le (by rw [← Hn.out]; exact Nat.le_refl _)] at h1
      have HZ := Lib.hid (HNo.out h1)
      have HE := Lib.hid HH.out.ext
      clear h1
      go_wp2_with fail
      go_ret
      exact ⟨by rw [HZ.out]; rfl, HE.out⟩
set_option maxRecDepth 100000 in
set_option maxHeartbeats 4000000 in
theorem rsnap_any (w : World) (t : Dst) (s : ByteArray) (h : Sl.At w 0 w.heap.size Sna.cells (Sna.At w 0 w.heap.size) t.snaps) :
    Calls Tryz.prog 78 #[.agg t.cells.toArray, .string s] w fun e w' => e = .returned (.int .i64 (findI (fun x : Sna => decide (x.name = s)) t.snaps.xs)) ∧ Ext w w' := by
  have HA := Lib.hid h
  have HAt := Lib.hid (findI_at (fun x : Sna => decide (x.name = s)) t.snaps.xs)
  have HNo := Lib.hid (findI_none (fun x : Sna => decide (x.name = s)) t.snaps.xs)
  generalize findI (fun x : Sna => decide (x.name = s)) t.snaps.xs = V at *
  clear h
  obtain ⟨path, orig, ⟨bA, bn, bc, bd⟩, ⟨A, n, c, xs⟩, ⟨pA, pn, pc, ps⟩⟩ := t
  have Hn := Lib.hid (show n = xs.length from HA.out.len)
  have hm : n ≤ 9223372036854775807 := Nat.le_trans (Nat.le_trans HA.out.le HA.out.cap) (by decide)
  dsimp only at HAt HNo
  simp only [Dst.cells, Sl.val]
  go_enter Tryz.func78, Tryz.ntmps78
  go_upto_region 1 with fail
  generalize hwH : World.alloc w _ = w1; have HH := Lib.hid (Heap.one hwH); clear hwH
  have c3 := (HH.out.boxAt 0 rfl).cell 3 _ rfl
  go_wp2_with fail
  go_loopw [5] (fun i wr => ∃ k : Nat, k ≤ n ∧ i = .int .i64 (k : Int) ∧ Hid (∀ x ∈ xs.take k, decide (x.name = s) = false) ∧ wr = w1) (fun i _ => n - (intOf i).toNat)
  case atStart => exact ⟨0, Nat.zero_le _, rfl, Lib.hid (by simp), rfl⟩
  case round =>
    obtain ⟨k, hk, rfl, HK, rfl⟩ := hrel
    by_cases hlt : k < n
    · have hl : k < xs.length := by rw [← Hn.out]; exact hlt
      obtain ⟨b1, o1, hA1, _, hb1, G0⟩ := rd_flat (size := 5) (fun _ => rfl) (by omega) (HA.out.rd.ext HH.out.ext (Nat.le_refl _)) hl
      dsimp only at hA1
      subst hA1
      have HY := Lib.hid (HAt.out k hl HK.out)
      have HT := Lib.hid (List.take_succ_eq_append_getElem hl)
      have HD := Lib.hid (toList_dec xs[k].name s)
      have g0 := G0 0 _ rfl
      generalize xs[k] = x at *
      have HE := Lib.hid HH.out.ext
      simp only [Nat.add_zero] at g0
      obtain ⟨y1, y2, y3, y4, y5⟩ := x
      dsimp only at HD HY g0
      clear G0
      by_cases he : y1 = s
      · have hd : (y1.toList == s.toList) = true := by rw [HD.out]; exact decide_eq_true he
        have HV := Lib.hid (HY.out (decide_eq_true he))
        clear he HY HD
        go_wp2_with fail
        go_ret
        exact ⟨by rw [HV.out]; rfl, HE.out⟩
      · have hd : (y1.toList == s.toList) = false := by rw [HD.out]; exact decide_eq_false he
        have he2 := Lib.hid he
        clear he HY HD
        go_wp2_with fail
        go_roundw
        case rel =>
          refine ⟨k + 1, by omega, by go_num, Lib.hid (fun z hz => ?_), by first | rfl | trivial⟩
          rw [HT.out] at hz
          rcases List.mem_append.1 hz with hz | hz
          · exact HK.out z hz
          · simp only [List.mem_singleton] at hz; subst hz; exact decide_eq_false he2.out
        case measure => (first | (simp [intOf]; done) | (simp [intOf]; omega))
    · obtain rfl : k = n := by omega
      have h1 := HK.out
      rw [List.take_of_length_le (by rw [← Hn.out]; exact Nat.le_refl _)] at h1
      have HZ := Lib.hid (HNo.out h1)
      have HE := Lib.hid HH.out.ext
      clear h1
      go_wp2_with fail
      go_ret
      exact ⟨by rw [HZ.out]; rfl, HE.out⟩
end Go.Proofs.YtckaneapjpiocaaGreatDoor
