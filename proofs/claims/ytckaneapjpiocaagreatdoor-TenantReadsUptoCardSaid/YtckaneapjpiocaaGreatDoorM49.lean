/- The texts Tre, Oobj in one file. -/
import Derived.Test.YtckaneapjpiocaaGreatDoorM45
import Derived.Test.YtckaneapjpiocaaGreatDoorM47
import Derived.Test.YtckaneapjpiocaaGreatDoorM6
import Derived.Test.YtckaneapjpiocaaGreatDoorM2
namespace Go.Proofs.YtckaneapjpiocaaGreatDoor
open Go.RowKit Go.Maps Go.Sort Go.Shelf
set_option linter.unusedVariables false
set_option linter.unusedSimpArgs false
def zT : Tnt := ⟨⟨#[]⟩, 0, 0, ⟨none, 0, 0, []⟩, ⟨none, 0, 0, []⟩, ⟨none, 0, 0, []⟩, ⟨none, 0, 0, []⟩⟩
theorem zT_at (w : World) : Tnt.At w 0 w.heap.size zT := ⟨by show (0 : Nat) ≤ _; decide, rfl, rfl, sl_nil .., sl_nil .., sl_nil .., sl_nil ..⟩
theorem same_zero (w : World) : Calls Tryz.prog 18 #[.agg zTnt.toArray, .agg zTnt.toArray] w fun e w' => e = .returned (.bool true) ∧ Ext w w' := by
  have := rsame14_any w zT zT (zT_at w) (zT_at w)
  rwa [tnEq_bare (zT_at w) (zT_at w) rfl] at this
set_option maxRecDepth 100000 in
set_option maxHeartbeats 16000000 in
theorem treads_any (w : World) (name : ByteArray) (s : Sl Ob) (hM : MaxV w) (hnm : sml name) (h : Sl.At w 0 w.heap.size Ob.cells (Ob.At w 0 w.heap.size) s) (hN : s.n ≤ 1048576) (hD : ∀ x ∈ s.xs, x.data.n ≤ 100000000 ∧ x.key.size ≤ 1048576) :
    Calls Tryz.prog 5 #[.string name, s.val] w fun e w' => e = .returned (.bool true) ∧ Ext w w' := by
  have HAl := Lib.hid (alive25_any)
  have HMx := Lib.hid hM
  have HRd := Lib.hid (fun W (hW : Ext w W) => tread_any W name s (hM.ext hW) hnm (sl_on h hW (Nat.le_refl _) fun _ h => Ob.At.on h hW (Nat.le_refl _)) hN hD)
  have HA := Lib.hid h
  clear hM hnm h hD
  obtain ⟨A, n, c, os⟩ := s
  dsimp only at hN HRd
  simp only [Sl.val] at HRd ⊢
  have Hn := Lib.hid (show n = os.length from HA.out.len)
  obtain ⟨TO, hTO⟩ : ∃ TO, TO = fun W => TdO W name (os.map okd) := ⟨_, rfl⟩
  have HR2 := Lib.hid (fun W (hW : Ext w W) => show Calls Tryz.prog 17 #[.string name, .slice A n c] W (TO W) by rw [hTO]; exact HRd.out W hW)
  have HTO := Lib.hid hTO
  clear HRd hTO
  go_enter Tryz.func5, Tryz.ntmps5
  go_wp2_with fail
  refine (HAl.out _ HMx.out).mono ?_
  rintro e w2 ⟨rfl, e2⟩
  have E2 := Lib.hid e2
  clear e2
  go_wp2_with fail
  refine (HR2.out _ E2.out).mono ?_
  intro e w3 h3
  rw [HTO.out] at h3
  clear HTO HR2
  rcases h3 with ⟨_, rfl, e3⟩ | ⟨_, _, rfl, e3⟩ | ⟨_, px, u, S, L, hr, rfl, hub, hin, hfit, h3⟩
  · have HH := Lib.hid (Heap.start w2)
    replace HH := Lib.hid (HH.out.later e3)
    clear e3
    go_upto_region 4 with (refine shl_store (HH.out.alloc _ _) sizeTnt rfl rfl rfl rfl 0 rfl rfl rfl rfl ?_; clear HH; intro wS HHS; have HH := Lib.hid HHS; clear HHS)
    obtain ⟨d0, d1, d2, d3, d4, d5, d6, -⟩ := bxN7 (HH.out.boxAt 0 rfl)
    go_wp2_with fail
    refine (same_zero _).mono ?_
    rintro e w4 ⟨rfl, e4⟩
    have E4 := Lib.hid (E2.out.trans (HH.out.ext.trans e4))
    go_wp2_with fail
    go_ret
    exact ⟨rfl, E4.out⟩
  · have HH := Lib.hid (Heap.start w2)
    replace HH := Lib.hid (HH.out.later e3)
    clear e3
    go_upto_region 4 with (refine shl_store (HH.out.alloc _ _) sizeTnt rfl rfl rfl rfl 0 rfl rfl rfl rfl ?_; clear HH; intro wS HHS; have HH := Lib.hid HHS; clear HHS)
    obtain ⟨d0, d1, d2, d3, d4, d5, d6, -⟩ := bxN7 (HH.out.boxAt 0 rfl)
    go_wp2_with fail
    refine (same_zero _).mono ?_
    rintro e w4 ⟨rfl, e4⟩
    have E4 := Lib.hid (E2.out.trans (HH.out.ext.trans e4))
    go_wp2_with fail
    go_ret
    exact ⟨rfl, E4.out⟩
  · obtain ⟨i1, i2, i3⟩ := rTen_inv hr
    subst hub
    have hAt := hin.at_ h3 (j := 0) rfl hfit
    have hst := stg_facts hAt
    rw [tenB_bare u (fun x hx => (hst x hx).1)] at i2
    have hk1 : ∀ x ∈ u.stages.xs, x.beg.kind = 1 := fun x hx => by
      have h2 := i2
      simp only [tenB, stsB, Bool.and_eq_true, List.all_eq_true] at h2
      have := h2.2.2.2.2.2.1.2.1 x hx
      simp only [stB, Bool.and_eq_true, beq_iff_eq] at this
      exact this.2.2.1
    rw [objT_bare u (fun x hx => ⟨(hst x hx).1, hk1 x hx⟩)] at i3
    have HM3 := Lib.hid (HMx.out.ext (E2.out.trans h3.ext))
    have HOb := Lib.hid (fun W (hW : Ext w3 W) => (objects_any W u (Tnt.At.on hAt hW (Nat.le_refl _)) (fun W' hW' => tcheck_any W' u (HM3.out.ext (hW.trans hW')) (Tnt.At.on hAt (hW.trans hW') (Nat.le_refl _)))).mono (R' := fun e w' => ∃ (A2 : Option Addr) (c2 : Nat) (os2 : List Ob), e = .returned (.tuple #[.slice A2 os2.length c2, .int .i64 0]) ∧ os2.map okd = os.map okd ∧ Ext W w' ∧ Sl.At w' 0 w'.heap.size Ob.cells (Ob.At w' 0 w'.heap.size) ⟨A2, os2.length, c2, os2⟩) fun e w' q => by
      rcases q with ⟨q, _⟩ | ⟨_, A2, c2, os2, q1, q2, q3⟩
      · rw [i2] at q; cases q
      · exact ⟨A2, c2, os2, q1, (okd_obk q2).trans i3, q3.ext, (obs_at i2 q2 q3).1⟩)
    have HCk := Lib.hid (fun W (hW : Ext w3 W) => rcheck_any W u (Tnt.At.on hAt hW (Nat.le_refl _)))
    rw [show tenE u = 0 by rw [tenE, i2]; rfl] at HCk
    have hun : u.name = name := i1
    have E3 := Lib.hid (E2.out.trans h3.ext)
    clear hr hin hfit hAt hst hk1 i1 i2 i3
    obtain ⟨un, uq, ux, ⟨uA, um, uc, us⟩, ⟨vA, vm, vc, vs⟩, ⟨xA, xm, xc, xs⟩, ⟨yA, ym, yc, ys⟩⟩ := u
    obtain rfl : un = name := hun
    simp only [Tnt.cells, Sl.val] at HOb HCk ⊢
    have HH := Lib.hid (Heap.start w3)
    clear h3
    go_upto_region 4 with (refine shl_store (HH.out.alloc _ _) sizeTnt rfl rfl rfl rfl 0 rfl rfl rfl rfl ?_; clear HH; intro wS HHS; have HH := Lib.hid HHS; clear HHS)
    go_wp2_with (refine shl_load HH.out sizeTnt (by kernel_rfl) rfl rfl rfl 0 rfl rfl ?_)
    refine (HOb.out _ HH.out.ext).mono ?_
    rintro e w5 ⟨A2, c2, os2, rfl, hos, e5, h2⟩
    replace HH := Lib.hid (HH.out.later e5)
    have HA2 := Lib.hid h2
    have HOs := Lib.hid hos
    clear e5 h2 hos HOb
    go_wp2_with (refine shl_load HH.out sizeTnt (by kernel_rfl) rfl rfl rfl 0 rfl rfl ?_)
    refine (HCk.out _ HH.out.ext).mono ?_
    rintro e w6 ⟨rfl, e6⟩
    replace HH := Lib.hid (HH.out.later e6)
    replace HA2 := Lib.hid (sl_on HA2.out e6 (Nat.le_refl _) fun _ h => Ob.At.on h e6 (Nat.le_refl _))
    clear e6 HCk
    have d0 := (HH.out.boxAt 0 rfl).cell 0 _ rfl
    have hl := map_len HOs.out
    rw [← Hn.out] at hl
    have hlen : ((os2.length : Int) != (n : Int)) = false := by rw [hl]; simp
    have hself : (un.toList != un.toList) = false := by simp
    go_wp2_with fail
    clear d0 hlen hself
    have E6 := Lib.hid (E3.out.trans HH.out.ext)
    clear HH
    rw [hl] at HA2
    have hl2 := hl
    clear hl
    go_loopw [9] (fun i wr => ∃ k : Nat, k ≤ n ∧ i = .int .i64 (k : Int) ∧ Hid (Ext w6 wr)) (fun i _ => n - (intOf i).toNat)
    case atStart => exact ⟨0, Nat.zero_le _, rfl, Lib.hid (Ext.refl _)⟩
    case round =>
      obtain ⟨k, hk, rfl, HE⟩ := hrel
      by_cases hlt : k < n
      · have hkk : (k : Int) < (n : Int) := by omega
        have l1 : k < os.length := by rw [← Hn.out]; exact hlt
        have l2 : k < os2.length := by omega
        obtain ⟨b1, o1, rfl, hb1, f0, f1, _⟩ := rd_ob HA.out.rd l1
        obtain ⟨b2, o2, hA2, hb2, g0, g1, _⟩ := rd_ob HA2.out.rd l2
        dsimp only at hA2
        subst hA2
        have hE := (E6.out.trans HE.out).trans (Ext.drew (Ext.refl wr))
        have hE6 := HE.out.trans (Ext.drew (Ext.refl wr))
        have hd1 := HA.out.all _ (List.getElem_mem l1)
        have hd2 := HA2.out.all _ (List.getElem_mem l2)
        have he := map_at HOs.out k l2 l1
        have hx1 := Rd.at hd1.data.rdb hE (Nat.le_refl _)
        have hx2 := Rd.at hd2.data.rdb hE6 (Nat.le_refl _)
        have q1 : wr.drew.cell? ⟨b1, o1 + k * 3, none⟩ = _ := (Below.cell (p := ⟨b1, o1 + k * 3, none⟩) hE hb1).trans f0
        have q2 : wr.drew.cell? ⟨b1, o1 + k * 3 + 1, none⟩ = _ := (Below.cell (p := ⟨b1, o1 + k * 3 + 1, none⟩) hE hb1).trans f1
        have q3 : wr.drew.cell? ⟨b2, o2 + k * 3, none⟩ = _ := (Below.cell (p := ⟨b2, o2 + k * 3, none⟩) hE6 hb2).trans g0
        have q4 : wr.drew.cell? ⟨b2, o2 + k * 3 + 1, none⟩ = _ := (Below.cell (p := ⟨b2, o2 + k * 3 + 1, none⟩) hE6 hb2).trans g1
        have hn1 := hd1.data.len
        have hn2 := hd2.data.len
        clear f0 f1 g0 g1 hE hE6 hd1 hd2
        generalize os[k] = x at *
        generalize os2[k] = y at *
        obtain ⟨k1, ⟨A3, n3, c3, x3⟩, _⟩ := x
        obtain ⟨k2, ⟨A4, n4, c4, x4⟩, _⟩ := y
        simp only [okd, Prod.mk.injEq] at he
        obtain ⟨rfl, rfl⟩ := he
        simp only [Sl.val] at q2 q4
        have hc1 := run_conv_str (P := Tryz.prog) wr.drew 53 9 5 Tryz.underlying53 Tryz.underlying5 Tryz.underlying9 _ _ A3 n3 c3 x4 hn1 hx1
        have hc2 := run_conv_str (P := Tryz.prog) wr.drew 53 9 5 Tryz.underlying53 Tryz.underlying5 Tryz.underlying9 _ _ A4 n4 c4 x4 hn2 hx2
        have hs1 : (k2.toList != k2.toList) = false := by simp
        have hs2 : ((⟨x4.toArray⟩ : ByteArray).toList != (⟨x4.toArray⟩ : ByteArray).toList) = false := by simp
        clear hx1 hx2 hn1 hn2
        go_upto_region 12 with fail
        refine wp_region_held_drew (S := fun w' => w' = (wr).drew) (by kernel_rfl) rfl (fun hHeld => ?_)
        refine tW 0 26 ?_
        refine wpAnyH_done (by kernel_rfl) ?_ _
        go_wp2_with fail
        go_roundw
        case rel => exact ⟨k + 1, by omega, by go_num, Lib.hid (Ext.drew HE.out)⟩
        case measure => simp [intOf]; omega
      · obtain rfl : k = n := by omega
        go_wp2_with fail
        go_ret
        exact ⟨rfl, E6.out.trans HE.out⟩
end Go.Proofs.YtckaneapjpiocaaGreatDoor
namespace Go.Proofs.YtckaneapjpiocaaGreatDoor.opb
open Go.RowKit Go.ChangeShapes Go.WideShapes Go.Deep Go.Joins
set_option linter.unusedVariables false
section
variable {H : Type} {enc : TypeId × Value → H} {w : World}
theorem opens_oct : Opens enc Tryz.prog w 53 (fun s : Oct => [s.val]) (fun s => Oct.At w 0 w.heap.size s ∧ s.n ≤ 1048576) :=
  (opens_slice 1 Tryz.underlying53 (by kernel_rfl) (by omega) (fun _ => rfl) ((opens_int Tryz.underlying5).map (fun z => UInt8.ofNat z.toNat) (fun z h => by
    have h1 : (0 : Int) ≤ z ∧ z ≤ 255 := h
    show [Value.int .u8 z] = [.int .u8 ((UInt8.ofNat z.toNat).toNat : Int)]
    rw [UInt8.toNat_ofNat']
    congr 2
    omega) (I' := fun _ => True) (fun _ _ => trivial))).map id (fun _ _ => rfl) (fun s h => ⟨⟨h.len, h.le, h.cap, h.rd, fun _ _ => trivial⟩, h.small⟩)
theorem opens_loc : Opens enc Tryz.prog w 54 (fun s : Loc => [s.val]) (fun s => Loc.At w 0 w.heap.size s) :=
  (opens_slice 1 Tryz.underlying54 (by kernel_rfl) (by omega) (fun _ => rfl) ((opens_int Tryz.underlying3).map (cells' := intc) id (fun z h => rfl) (I' := fun y => (Lit.int .i64 y).wf = true) (fun y h => by
    simp only [Lit.wf, Bool.and_eq_true, decide_eq_true_eq]; exact h))).map id (fun _ _ => rfl) (fun s h => ⟨h.len, h.le, h.cap, h.rd, h.all⟩)
theorem opens_ob : Opens enc Tryz.prog w 56 Ob.cells (fun x => Ob.At w 0 w.heap.size x ∧ x.data.n ≤ 1048576 ∧ x.key.size ≤ 1048576) :=
  (opens_struct Tryz.underlying56 (by kernel_rfl) (OpensF.cons 1 (opens_str Tryz.underlying9) rfl (by kernel_rfl) (OpensF.cons 1 opens_oct rfl (by kernel_rfl) (OpensF.cons 1 opens_loc rfl (by kernel_rfl) OpensF.nil)))).map
    (fun x => ⟨x.1, x.2.1, x.2.2.1⟩) (fun _ _ => rfl) (fun _ h => ⟨⟨Nat.le_trans h.1 (by decide), h.2.1.1, h.2.2.1⟩, h.2.1.2, h.1⟩)
theorem opens_objs : Opens enc Tryz.prog w 33 (fun s : Sl Ob => [s.val]) (In w Ob.cells (fun x => Ob.At w 0 w.heap.size x ∧ x.data.n ≤ 1048576 ∧ x.key.size ≤ 1048576)) :=
  opens_slice 3 Tryz.underlying33 (by kernel_rfl) (by omega) (fun _ => rfl) opens_ob
end
end Go.Proofs.YtckaneapjpiocaaGreatDoor.opb
