/- The texts Tlw, Tbk in one file. -/
import Derived.Test.YtckaneapjpiocaaGreatDoorM34
import Derived.Test.YtckaneapjpiocaaGreatDoorM35
import Derived.Test.YtckaneapjpiocaaGreatDoorM36
import Derived.Test.YtckaneapjpiocaaGreatDoorM39
import Derived.Test.YtckaneapjpiocaaGreatDoorM44
import Derived.Test.YtckaneapjpiocaaGreatDoorM2
namespace Go.Proofs.YtckaneapjpiocaaGreatDoor
open Go.RowKit Go.Maps Go.Sort Go.Shelf
set_option linter.unusedVariables false
set_option linter.unusedSimpArgs false
section
variable {α β : Type}
theorem map_at {f : α → β} {xs ys : List α} (h : xs.map f = ys.map f) (k : Nat) (h1 : k < xs.length) (h2 : k < ys.length) : f xs[k] = f ys[k] := by
  have := congrArg (fun l => l[k]?) h
  simpa [List.getElem?_map, List.getElem?_eq_getElem h1, List.getElem?_eq_getElem h2] using this
theorem map_len {f : α → β} {xs ys : List α} (h : xs.map f = ys.map f) : xs.length = ys.length := by
  have := congrArg List.length h
  simpa using this
theorem sl_xs {xs ys : List α} (h : slB xs = slB ys) : xs = ys := congrArg Sl.xs h
end
theorem snEq_bare {w w' : World} {lo hi lo' hi' : Nat} {x y : Sna} (hx : Sna.At w lo hi x) (hy : Sna.At w' lo' hi' y) (h : x.bare = y.bare) : snEq x y = true := by
  obtain ⟨n, g, b, t, o⟩ := x
  obtain ⟨n', g', b', t', o'⟩ := y
  simp only [Sna.bare, Sna.mk.injEq] at h
  obtain ⟨rfl, rfl, h1, h2, h3⟩ := h
  have e1 := sl_xs h1
  have e2 := sl_xs h2
  have e3 := sl_xs h3
  have l1 := hx.tags.len
  have l2 := hy.tags.len
  simp only [] at l1 l2 e1 e2 e3
  simp [snEq, e1, e2, e3, l1, l2]
theorem dsEq_bare {w w' : World} {lo hi lo' hi' : Nat} {x y : Dst} (hx : Dst.At w lo hi x) (hy : Dst.At w' lo' hi' y) (h : x.bare = y.bare) : dsEq x y = true := by
  obtain ⟨p, o, b, s, r⟩ := x
  obtain ⟨p', o', b', s', r'⟩ := y
  simp only [Dst.bare, Dst.mk.injEq] at h
  obtain ⟨rfl, rfl, h1, h2, h3⟩ := h
  have e1 := sl_xs h1
  have e2 := sl_xs h2
  have e3 := sl_xs h3
  have l1 := hx.snaps.len
  have l2 := hy.snaps.len
  have l3 := map_len e2
  simp only [] at l1 l2 l3 e1 e2 e3
  have hz : zipEq s.xs s'.xs = true := by
    refine zipEq_yes _ _ l3 fun k k1 k2 => ?_
    exact snEq_bare (hx.snaps.all _ (List.getElem_mem k1)) (hy.snaps.all _ (List.getElem_mem k2)) (map_at e2 k k1 k2)
  simp [dsEq, e1, e3, l1, l2, l3, hz]
theorem tnEq_bare {w w' : World} {lo hi lo' hi' : Nat} {x y : Tnt} (hx : Tnt.At w lo hi x) (hy : Tnt.At w' lo' hi' y) (h : x.bare = y.bare) : tnEq x y = true := by
  obtain ⟨n, q, nx, s, g, a, l⟩ := x
  obtain ⟨n', q', nx', s', g', a', l'⟩ := y
  simp only [Tnt.bare, Tnt.mk.injEq] at h
  obtain ⟨rfl, rfl, rfl, h1, h2, h3, h4⟩ := h
  have e1 := sl_xs h1
  have e2 := sl_xs h2
  have e3 := sl_xs h3
  have e4 := sl_xs h4
  have l1 := hx.sets.len
  have l2 := hy.sets.len
  have l3 := map_len e1
  have l4 := hx.stages.len
  have l5 := hy.stages.len
  have l6 := map_len e3
  simp only [] at l1 l2 l3 l4 l5 l6 e1 e2 e3 e4
  have hz : zip2 dsEq s.xs s'.xs = true := zip2_yes _ _ _ l3 fun k k1 k2 => dsEq_bare (hx.sets.all _ (List.getElem_mem k1)) (hy.sets.all _ (List.getElem_mem k2)) (map_at e1 k k1 k2)
  have hz2 : zip2 sameS a.xs a'.xs = true := zip2_yes _ _ _ l6 fun k k1 k2 => same_bare _ _ (map_at e3 k k1 k2)
  simp [tnEq, e2, e4, l1, l2, l3, l4, l5, l6, hz, hz2]
theorem okd_obk {t : Tnt} {os : List Ob} (h : os.map obk = obL t) : os.map okd = (objT t).map octD := by
  have := congrArg (List.map fun p : ByteArray × List UInt8 × Loc => (p.1, p.2.1)) h
  rw [obL, List.map_map, List.map_map] at this
  exact this
theorem stg_facts {w : World} {lo hi : Nat} {t : Tnt} (h : Tnt.At w lo hi t) : ∀ x ∈ t.stages.xs, x.beg.on = x.beg.own.length ∧ (sumR x.beg).wf ∧ x.su.wf := fun x hx => by
  have := h.stages.all x hx
  exact ⟨this.beg.own, this.begS, this.su⟩
theorem tback_read {w w0 w1 : World} {t : Tnt} (hM : MaxV w1) (h : Tnt.At w 0 w.heap.size t) (ht : tenB t = true) {A : Option Addr} {c : Nat} {os : List Ob} (ho : os.map obk = obL t) (H : Heap w0 (.row 56 3 (.slice A os.length c) os.length (os.flatMap Ob.cells) :: os.map datIt) w1) :
    Calls Tryz.prog 17 #[.string t.name, .slice A os.length c] w1 fun e w' => ∃ (u : Tnt) (S : Nat → Prop) (L : RdL), e = .returned (.tuple #[.agg u.cells.toArray, .int .i64 0]) ∧ u.bare = t.bare ∧ TntIn L u ∧ u.fit ∧ Heap w1 [It.bag S L] w' := by
  obtain ⟨p1, p2, p3⟩ := obs_at ht ho H
  have hk := okd_obk ho
  have hlen : os.length ≤ 37 := by
    have hl := congrArg List.length ho
    simp only [tenB, setsB, stsB, Bool.and_eq_true, decide_eq_true_eq] at ht
    rw [List.length_map, obL, objT] at hl
    simp only [List.length_map, List.length_cons, List.length_append] at hl
    have := ht.2.2.2.1.1
    have := ht.2.2.2.2.2.1.1
    omega
  have hky : ∀ x ∈ os, x.key.size ≤ 1048576 := fun x hx => by
    have h1 := List.mem_map_of_mem (f := okd) hx
    rw [hk] at h1
    obtain ⟨p, hp, he⟩ := List.mem_map.1 h1
    have := key_small t ht p hp
    have e2 : p.1 = x.key := congrArg Prod.fst he
    rw [← e2]; omega
  have hR := rTen_back t ht (stg_facts h)
  refine (tread_any w1 t.name ⟨A, os.length, c, os⟩ hM h.name p1 (by show os.length ≤ _; omega) (fun x hx => ⟨p2 x hx, hky x hx⟩)).mono fun e w' q => ?_
  have hn : nameB t.name = true := by
    simp only [tenB, Bool.and_eq_true] at ht
    exact ht.1
  rcases q with ⟨q, _⟩ | ⟨_, q, _⟩ | ⟨_, px, u, S, L, q1, q2, q3, q4, q5, q6⟩
  · rw [hn] at q; cases q
  · rw [hk, hR] at q; cases q
  · rw [hk, hR] at q1
    cases q1
    exact ⟨u, S, L, q2, q3, q4, q5, q6⟩
open Go.RowKit Go.Maps Go.Sort Go.Shelf
set_option linter.unusedVariables false
set_option linter.unusedSimpArgs false
theorem obs_keys {t : Tnt} {os : List Ob} (ho : os.map obk = obL t) : os.length = 1 + t.sets.xs.length + t.stages.xs.length ∧ (∀ (h : 0 < os.length), os[0].key = pT t.name ∧ os[0].locs = zL) ∧
    (∀ k (h : k < t.sets.xs.length) (h2 : k + 1 < os.length), os[k + 1].key = pS t.name ++ t.sets.xs[k].path ∧ os[k + 1].locs = zL) ∧
    (∀ k (h : k < t.stages.xs.length) (h2 : k + 1 + t.sets.xs.length < os.length), os[k + 1 + t.sets.xs.length].key = pG t.name ++ t.stages.xs[k].into ∧ os[k + 1 + t.sets.xs.length].locs = zL) := by
  have hl := congrArg List.length ho
  rw [List.length_map, obL, objT] at hl
  simp only [List.length_map, List.length_cons, List.length_append] at hl
  have hat : ∀ (k : Nat) (h : k < os.length) (p : ByteArray × List ByteArray), (objT t)[k]? = some p → os[k].key = p.1 ∧ os[k].locs = zL := fun k h p hp => by
    have := congrArg (fun l => l[k]?) ho
    simp only [obL, List.getElem?_map, List.getElem?_eq_getElem h, hp, Option.map_some, Option.some.injEq] at this
    exact ⟨congrArg Prod.fst this, congrArg (fun q : ByteArray × List UInt8 × Loc => q.2.2) this⟩
  refine ⟨by omega, fun h => ?_, fun k h h2 => ?_, fun k h h2 => ?_⟩
  · have := hat 0 h _ rfl
    rw [key_T] at this
    exact this
  · have := hat (k + 1) h2 (keyO [kS, t.name, t.sets.xs[k].path], dstT t.sets.xs[k]) (by
      rw [objT, List.getElem?_cons_succ, List.getElem?_append_left (by rw [List.length_map]; exact h), List.getElem?_map, List.getElem?_eq_getElem h]; rfl)
    rw [key_S] at this
    exact this
  · have := hat (k + 1 + t.sets.xs.length) h2 (keyO [kG, t.name, t.stages.xs[k].into], stgT t.stages.xs[k]) (by
      rw [objT, show k + 1 + t.sets.xs.length = (k + t.sets.xs.length) + 1 by omega, List.getElem?_cons_succ, List.getElem?_append_right (by rw [List.length_map]; omega), List.length_map, Nat.add_sub_cancel, List.getElem?_map, List.getElem?_eq_getElem h]; rfl)
    rw [key_G] at this
    exact this
set_option maxRecDepth 100000 in
set_option maxHeartbeats 16000000 in
theorem tback_any (w : World) (t : Tnt) (hM : MaxV w) (h : Tnt.At w 0 w.heap.size t) :
    Calls Tryz.prog 4 #[.agg t.cells.toArray] w fun e w' => e = .returned (.bool true) ∧ Ext w w' := by
  have HAl := Lib.hid (alive25_any)
  have HMx := Lib.hid hM
  have HT := Lib.hid h
  have HOb := Lib.hid (fun W (hW : Ext w W) => objects_any W t (Tnt.At.on h hW (Nat.le_refl _)) (fun W' hW' => tcheck_any W' t (hM.ext (hW.trans hW')) (Tnt.At.on h (hW.trans hW') (Nat.le_refl _))))
  have HCk := Lib.hid (fun W (hW : Ext w W) => rcheck_any W t (Tnt.At.on h hW (Nat.le_refl _)))
  have HTc := Lib.hid (show t.cells = [.string t.name, .int .i64 t.quota, .int .i64 t.next, t.sets.val, t.grants.val, t.stages.val, t.log.val] from rfl)
  obtain ⟨OO, hOO⟩ : ∃ OO, OO = fun W => ObsOk W t := ⟨_, rfl⟩
  cases ht : tenB t with
  | false =>
    have HO2 := Lib.hid (fun W (hW : Ext w W) => (HOb.out W hW).mono (R' := fun e w' => e = .returned (.tuple #[.slice none 0 0, .int .i64 9]) ∧ Ext W w') fun e w' q => by
      rcases q with ⟨_, q⟩ | ⟨q, _⟩
      · exact q
      · rw [ht] at q; cases q)
    rw [show tenE t = 9 by rw [tenE, ht]; rfl] at HCk
    clear HOb hOO h hM ht HT
    obtain ⟨name, quota, next, ⟨sA, sn, sc, ss⟩, ⟨gA, gn, gc, gs⟩, ⟨aA, an, ac, ax⟩, ⟨lA, ln, lc, ls⟩⟩ := t
    simp only [Tnt.cells, Sl.val] at *
    clear HTc
    go_enter Tryz.func4, Tryz.ntmps4
    go_upto_region 1 with fail
    generalize hwH : World.alloc w _ = w1; have HH := Lib.hid (Heap.one hwH); clear hwH
    go_wp2_with fail
    refine (HAl.out _ (HMx.out.ext HH.out.ext)).mono ?_
    rintro e w2 ⟨rfl, e2⟩
    replace HH := Lib.hid (HH.out.later e2)
    clear e2
    go_wp2_with (refine shl_load HH.out sizeTnt (by kernel_rfl) rfl rfl rfl 0 rfl rfl ?_)
    refine (HO2.out _ HH.out.ext).mono ?_
    rintro e w3 ⟨rfl, e3⟩
    replace HH := Lib.hid (HH.out.later e3)
    clear e3
    go_wp2_with (refine shl_load HH.out sizeTnt (by kernel_rfl) rfl rfl rfl 0 rfl rfl ?_)
    refine (HCk.out _ HH.out.ext).mono ?_
    rintro e w4 ⟨rfl, e4⟩
    replace HH := Lib.hid (HH.out.later e4)
    clear e4
    go_wp2_with fail
    go_ret
    exact ⟨rfl, HH.out.ext⟩
  | true =>
    have HO2 := Lib.hid (fun W (hW : Ext w W) => (HOb.out W hW).mono (R' := fun e w' => ∃ (A : Option Addr) (c : Nat) (os : List Ob), e = .returned (.tuple #[.slice A os.length c, .int .i64 0]) ∧ os.map obk = obL t ∧ Heap W (.row 56 3 (.slice A os.length c) os.length (os.flatMap Ob.cells) :: os.map datIt) w') fun e w' q => by
      rcases q with ⟨q, _⟩ | ⟨_, q⟩
      · rw [ht] at q; cases q
      · exact q)
    rw [show tenE t = 0 by rw [tenE, ht]; rfl] at HCk
    have HRb := Lib.hid (fun w0 w1 (hW : Ext w w1) (A : Option Addr) (c : Nat) (os : List Ob) (ho : os.map obk = obL t) (H : Heap w0 (.row 56 3 (.slice A os.length c) os.length (os.flatMap Ob.cells) :: os.map datIt) w1) => tback_read (hM.ext hW) (Tnt.At.on h hW (Nat.le_refl _)) ht ho H)
    have HSm := Lib.hid (fun W (hW : Ext w W) (u : Tnt) (hu : Tnt.At W 0 W.heap.size u) (hb : u.bare = t.bare) => show Calls Tryz.prog 18 #[.agg t.cells.toArray, .agg u.cells.toArray] W fun e w' => e = .returned (.bool true) ∧ Ext W w' by
      have h1 := Tnt.At.on h hW (Nat.le_refl _)
      have := rsame14_any W t u h1 hu
      rwa [tnEq_bare h1 hu hb.symm] at this)
    have HKy := Lib.hid (fun (os : List Ob) (ho : os.map obk = obL t) => obs_keys ho)
    have HB := Lib.hid (show t.sets.xs.length ≤ 32 ∧ t.stages.xs.length ≤ 4 by
      simp only [tenB, setsB, stsB, Bool.and_eq_true, decide_eq_true_eq] at ht
      exact ⟨ht.2.2.2.1.1, ht.2.2.2.2.2.1.1⟩)
    have hnz : t.name.size ≤ 16 := by
      simp only [tenB, Bool.and_eq_true] at ht
      exact name_size ht.1
    have HPz := Lib.hid (show (∀ x ∈ t.sets.xs, x.path.size ≤ 67) ∧ ∀ x ∈ t.stages.xs, x.into.size ≤ 67 by
      simp only [tenB, setsB, stsB, Bool.and_eq_true, List.all_eq_true] at ht
      exact ⟨fun x hx => (dst_small _ x (ht.2.2.2.1.2.2.1 x hx)).2.2.2, fun x hx => (stg_small x (ht.2.2.2.2.2.1.2.1 x hx)).2.2.2⟩)
    clear HOb hOO h hM ht
    obtain ⟨name, quota, next, ⟨sA, sn, sc, ss⟩, ⟨gA, gn, gc, gs⟩, ⟨aA, an, ac, ax⟩, ⟨lA, ln, lc, ls⟩⟩ := t
    have Hsn := Lib.hid (show sn = ss.length from HT.out.sets.len)
    have Han := Lib.hid (show an = ax.length from HT.out.stages.len)
    simp only [Tnt.cells, Sl.val] at HO2 HCk HSm ⊢
    dsimp only at HRb HKy HB HPz hnz
    clear HTc
    go_enter Tryz.func4, Tryz.ntmps4
    go_upto_region 1 with fail
    generalize hwH : World.alloc w _ = w1; have HH := Lib.hid (Heap.one hwH); clear hwH
    obtain ⟨tb, htb⟩ : ∃ b, b = w.heap.size := ⟨_, rfl⟩
    rw [← htb] at HH ⊢
    clear htb
    go_wp2_with fail
    refine (HAl.out _ (HMx.out.ext HH.out.ext)).mono ?_
    rintro e w2 ⟨rfl, e2⟩
    replace HH := Lib.hid (HH.out.later e2)
    clear e2
    go_wp2_with (refine shl_load HH.out sizeTnt (by kernel_rfl) rfl rfl rfl 0 rfl rfl ?_)
    refine (HO2.out _ HH.out.ext).mono ?_
    rintro e w3 ⟨A, c, os, rfl, ho, h3⟩
    have HH3 := Lib.hid h3
    have E3 := Lib.hid (HH.out.ext.trans h3.ext)
    have HO := Lib.hid ho
    obtain ⟨k1, k2, k3, k4⟩ := HKy.out os ho
    have HK := Lib.hid (And.intro k1 (And.intro k2 (And.intro k3 k4)))
    replace HH := Lib.hid (HH.out.later h3.ext)
    clear h3 ho k1 k2 k3 k4 HO2 HKy
    go_wp2_with (refine shl_load HH.out sizeTnt (by kernel_rfl) rfl rfl rfl 0 rfl rfl ?_)
    refine (HCk.out _ HH.out.ext).mono ?_
    rintro e w4 ⟨rfl, e4⟩
    replace HH := Lib.hid (HH.out.later e4)
    replace HH3 := Lib.hid (HH3.out.later e4)
    clear e4 HCk
    go_wp2_with (refine shl_load1 HH.out rfl rfl rfl 0 rfl rfl (by decide +kernel) ?_)
    refine (HRb.out _ _ HH.out.ext A c os HO.out HH3.out).mono ?_
    rintro e w5 ⟨u, S, L, rfl, hub, hin, hfit, h5⟩
    have hAt := hin.at_ h5 (j := 0) rfl hfit
    have E4 := Lib.hid HH.out.ext
    have HSm2 := Lib.hid (fun W (hW : Ext w5 W) => HSm.out W ((E4.out.trans h5.ext).trans hW) u (Tnt.At.on hAt hW (Nat.le_refl _)) hub)
    have HW5 := Lib.hid h5.ext
    replace HH := Lib.hid (HH.out.later h5.ext)
    replace HH3 := Lib.hid (HH3.out.later h5.ext)
    have hmx : sn ≤ 32 ∧ an ≤ 4 := by have := HB.out; have := Hsn.out; have := Han.out; omega
    have hol : os.length = 1 + sn + an := by have := HK.out.1; have := Hsn.out; have := Han.out; omega
    clear h5 hin hfit hAt hub HSm HRb E4
    obtain ⟨un, uq, ux, ⟨uA, um, uc, us⟩, ⟨vA, vm, vc, vs⟩, ⟨xA, xm, xc, xs⟩, ⟨yA, ym, yc, ys⟩⟩ := u
    simp only [Tnt.cells, Sl.val] at HSm2 ⊢
    go_upto_region 7 with (refine shl_store ((Heap.start _).alloc _ _) sizeTnt rfl rfl rfl rfl 0 rfl rfl rfl rfl ?_; intro wS HHS; have TS := Lib.hid HHS.ext; replace HH := Lib.hid (HH.out.joinR HHS); clear HHS)
    obtain ⟨ub, hub⟩ : ∃ b, b = w5.heap.size := ⟨_, rfl⟩
    rw [← hub] at HH ⊢
    clear hub
    have HRw := Lib.hid ((HH3.out.rowRd 0 rfl).ext TS.out (Nat.le_refl _))
    have HR5 := Lib.hid (TS.out.size)
    obtain ⟨c0, c1, c2, c3, c4, c5, c6, -⟩ := bxN7 (HH.out.boxAt 0 rfl)
    obtain ⟨d0, d1, d2, d3, d4, d5, d6, -⟩ := bxN7 (HH.out.boxAt 1 rfl)
    have hlen : ((os.length : Int) != 1 + (sn : Int) + (an : Int)) = false := by simp; omega
    go_wp2_with fail
    refine (HSm2.out _ TS.out).mono ?_
    rintro e w6 ⟨rfl, e6⟩
    replace HH := Lib.hid (HH.out.later e6)
    clear c0 c1 c2 c3 c4 c5 c6 d0 d1 d2 d3 d4 d5 d6 HSm2
    obtain ⟨c0, c1, c2, c3, c4, c5, c6, -⟩ := bxN7 (HH.out.boxAt 0 rfl)
    go_wp2_with fail
    clear hlen c0 c1 c2 c3 c4 c5 c6
    have HE6 := Lib.hid e6
    clear e6
    have HH0 := HH
    clear HH
    go_loopw [7, 8] (fun i v wr => ∃ k : Nat, k ≤ os.length ∧ i = .int .i64 (k : Int) ∧ Hid (Ext w6 wr)) (fun i _ _ => os.length - (intOf i).toNat)
    case atStart => exact ⟨0, Nat.zero_le _, rfl, Lib.hid (Ext.refl _)⟩
    case round =>
      obtain ⟨k, hk, rfl, HE⟩ := hrel
      by_cases hlt : k < os.length
      · have hkk : (k : Int) < (os.length : Int) := by omega
        have HH := Lib.hid (HH0.out.later HE.out)
        obtain ⟨b1, o1, rfl, hb1, f0, _, f2⟩ := rd_ob HRw.out hlt
        have g0 : wr.cell? ⟨b1, o1 + k * 3, none⟩ = some (.string os[k].key) := (Below.cell (p := ⟨b1, o1 + k * 3, none⟩) (HE6.out.trans HE.out) (Nat.lt_of_lt_of_le hb1 HR5.out)).trans f0
        have g2 : wr.cell? ⟨b1, o1 + k * 3 + 2, none⟩ = some os[k].locs.val := (Below.cell (p := ⟨b1, o1 + k * 3 + 2, none⟩) (HE6.out.trans HE.out) (Nat.lt_of_lt_of_le hb1 HR5.out)).trans f2
        clear f0 f2
        have hK := HK.out
        have c0 := (HH.out.boxAt 0 rfl).cell 0 _ rfl
        have c3 := (HH.out.boxAt 0 rfl).cell 3 _ rfl
        have c5 := (HH.out.boxAt 0 rfl).cell 5 _ rfl
        by_cases hk0 : k = 0
        · subst hk0
          obtain ⟨q1, q2⟩ := hK.2.1 hlt
          rw [q1] at g0
          rw [q2] at g2
          have g2' : wr.cell? ⟨b1, o1 + 0 * 3 + 2, none⟩ = some (.slice none 0 0) := g2
          have hself := toList_self (pT name)
          clear q1 q2 hK g2
          rw [Nat.zero_mul, Nat.add_zero] at g0 g2'
          simp only [pT] at g0 hself
          have h1 : ¬ (sn : Int) < 0 := by omega
          go_wp2_with fail
          go_roundw
          case rel => exact ⟨1, by omega, rfl, HE⟩
          case measure => simp [intOf]; omega
        · by_cases hks : k ≤ sn
          · obtain ⟨j, hj⟩ : ∃ j, k = j + 1 := ⟨k - 1, by omega⟩
            have hjs : j < ss.length := by have := Hsn.out; omega
            obtain ⟨q1, q2⟩ := hK.2.2.1 j hjs (by omega)
            have qk : os[k].key = pS name ++ ss[j].path := by subst hj; exact q1
            have ql : os[k].locs = zL := by subst hj; exact q2
            rw [qk] at g0
            rw [ql] at g2
            replace g2 : wr.cell? ⟨b1, o1 + k * 3 + 2, none⟩ = some (.slice none 0 0) := g2
            obtain ⟨b2, o2, hA2, _, hb2, G⟩ := rd_flat (size := 5) (fun _ => rfl) (by omega) HT.out.sets.rd hjs
            dsimp only at hA2
            subst hA2
            have hpz := HPz.out.1 _ (List.getElem_mem hjs)
            have G0 : wr.cell? ⟨b2, o2 + j * 5, none⟩ = some (.string ss[j].path) := (Below.cell (p := ⟨b2, o2 + j * 5, none⟩) HH.out.ext hb2).trans (by simpa using G 0 _ rfl)
            have hself := toList_self (pS name ++ ss[j].path)
            clear q1 q2 qk ql hK G
            generalize ss[j].path = pth at *
            simp only [pS] at g0 hself
            have h1 : ¬ (sn : Int) < (k : Int) := by omega
            have h2 : (0 : Int) < (k : Int) := by omega
            have he : (k : Int) - 1 = (j : Int) := by omega
            have hwj : IntKind.i64.wrap (j : Int) = (j : Int) := IntWalk.i64_in _ (by omega)
            have hjn : (j : Int) < (sn : Int) := by omega
            have hz : (({ data := #[115, 47] } : ByteArray) ++ name).size = 2 + name.size := by rw [ByteArray.size_append]; rfl
            have hz2 : (({ data := #[115, 47] } : ByteArray) ++ name ++ { data := #[47] }).size = 2 + name.size + 1 := by rw [ByteArray.size_append, ByteArray.size_append]; rfl
            have hb1 : ¬ 9223372036854775807 < 2 + name.size := by omega
            have hb2 : ¬ 9223372036854775807 < 2 + name.size + 1 := by omega
            have hb3 : ¬ 9223372036854775807 < 2 + name.size + 1 + pth.size := by omega
            clear hj
            go_upto_region 16 with fail
            refine wp_region_held_drew (S := fun w' => w' = (wr).drew) (by kernel_rfl) rfl (fun hHeld => ?_)
            refine tW 0 13 ?_
            refine wpAnyH_done (by kernel_rfl) ?_ _
            have g0' : wr.drew.cell? ⟨b1, o1 + k * 3, none⟩ = _ := g0
            have g2' : wr.drew.cell? ⟨b1, o1 + k * 3 + 2, none⟩ = _ := g2
            go_wp2_with fail
            go_roundw
            case rel => exact ⟨k + 1, by omega, by go_num, Lib.hid (Ext.drew HE.out)⟩
            case measure => simp [intOf]; omega
          · obtain ⟨j, hj⟩ : ∃ j, k = j + 1 + ss.length := ⟨k - 1 - ss.length, by have := Hsn.out; omega⟩
            have hja : j < ax.length := by have := Hsn.out; have := Han.out; omega
            obtain ⟨q1, q2⟩ := hK.2.2.2 j hja (by show j + 1 + ss.length < os.length; omega)
            have qk : os[k].key = pG name ++ ax[j].into := by subst hj; exact q1
            have ql : os[k].locs = zL := by subst hj; exact q2
            rw [qk] at g0
            rw [ql] at g2
            replace g2 : wr.cell? ⟨b1, o1 + k * 3 + 2, none⟩ = some (.slice none 0 0) := g2
            obtain ⟨b2, o2, hA2, _, hb2, G⟩ := rd_flat (size := 21) (fun _ => rfl) (by omega) HT.out.stages.rd hja
            dsimp only at hA2
            subst hA2
            have hpz := HPz.out.2 _ (List.getElem_mem hja)
            have G0 : wr.cell? ⟨b2, o2 + j * 21, none⟩ = some (.string ax[j].into) := (Below.cell (p := ⟨b2, o2 + j * 21, none⟩) HH.out.ext hb2).trans (by simpa using G 0 _ rfl)
            have hself := toList_self (pG name ++ ax[j].into)
            clear q1 q2 qk ql hK G
            generalize ax[j].into = pth at *
            simp only [pG] at g0 hself
            have h1 : (sn : Int) < (k : Int) := by omega
            have he : (k : Int) - 1 - (sn : Int) = (j : Int) := by have := Hsn.out; omega
            have hwj : IntKind.i64.wrap (j : Int) = (j : Int) := IntWalk.i64_in _ (by omega)
            have hwk : IntKind.i64.wrap ((k : Int) - 1) = (k : Int) - 1 := IntWalk.i64_in _ (by omega)
            have hjn : (j : Int) < (an : Int) := by have := Han.out; omega
            have hz : (({ data := #[103, 47] } : ByteArray) ++ name).size = 2 + name.size := by rw [ByteArray.size_append]; rfl
            have hz2 : (({ data := #[103, 47] } : ByteArray) ++ name ++ { data := #[47] }).size = 2 + name.size + 1 := by rw [ByteArray.size_append, ByteArray.size_append]; rfl
            have hb1 : ¬ 9223372036854775807 < 2 + name.size := by omega
            have hb2 : ¬ 9223372036854775807 < 2 + name.size + 1 := by omega
            have hb3 : ¬ 9223372036854775807 < 2 + name.size + 1 + pth.size := by omega
            clear hj
            go_upto_region 14 with fail
            refine wp_region_held_drew (S := fun w' => w' = (wr).drew) (by kernel_rfl) rfl (fun hHeld => ?_)
            refine tW 0 17 ?_
            refine wpAnyH_done (by kernel_rfl) ?_ _
            have g0' : wr.drew.cell? ⟨b1, o1 + k * 3, none⟩ = _ := g0
            have g2' : wr.drew.cell? ⟨b1, o1 + k * 3 + 2, none⟩ = _ := g2
            go_wp2_with fail
            go_roundw
            case rel => exact ⟨k + 1, by omega, by go_num, Lib.hid (Ext.drew HE.out)⟩
            case measure => simp [intOf]; omega
      · obtain rfl : k = os.length := by omega
        go_wp2_with fail
        go_ret
        exact ⟨rfl, (HH0.out.later HE.out).ext⟩
end Go.Proofs.YtckaneapjpiocaaGreatDoor
