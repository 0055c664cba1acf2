/- The walk of RequestTells: it returns true. It reads the table strings.asciiSpace as it was laid. -/
import Derived.Test.YtpbbjmfhcgcldaaDoorRoct
import Derived.Test.YtpbbjmfhcgcldaaDoorRw
namespace Go.Proofs.YtpbbjmfhcgcldaaDoor
open Go.RowKit
set_option linter.unusedVariables false
set_option linter.unusedSimpArgs false

/-- octets that read -/
def Octs (B : List UInt8) (w : World) (x : Value) : Prop := ∃ A c, x = .slice A B.length c ∧ Rd w 0 w.heap.size A (bytes B)
theorem Octs.ext {B : List UInt8} {w w' : World} {x : Value} (h : Octs B w x) (e : Ext w w') : Octs B w' x := by
  obtain ⟨A, c, h1, h2⟩ := h
  exact ⟨A, c, h1, Rd.at h2 e (Nat.le_refl _)⟩
theorem Octs.own {B : List UInt8} {w : World} {x : Value} {base : Nat} (h : w.ownsRow base 5 1 x B.length (bytes B)) : Octs B w x := by
  obtain ⟨A, c, rfl, _, _, _⟩ := own_form h
  exact ⟨A, c, rfl, (Rd.of_own h).more (Nat.zero_le _) (Nat.le_refl _)⟩
theorem Octs.conv {B : List UInt8} {w : World} {A : Option Addr} {n c : Nat} (h : Octs B w (.slice A n c)) : (convert 28 9 (.slice A n c)).run Tryd.prog w = .ok (.string ⟨B.toArray⟩) w := by
  obtain ⟨A', c', h1, h2⟩ := h
  injection h1 with a1 a2 a3
  subst a1 a2 a3
  exact run_conv_str (P := Tryd.prog) w 28 9 5 Tryd.underlying28 Tryd.underlying5 Tryd.underlying9 _ _ A _ c B rfl h2
def CutR (E : Int) (B : List UInt8) (w : World) (x g : Value) (wx : World) : Prop := g = .int .i64 E ∧ Octs B wx x ∧ Ext w wx
theorem octE_yes {zs : List Int} {l : List ByteArray} (h : zs.any oddI = false) : octE zs l = wE l ∧ octB zs l = wB l := by
  unfold octE octB
  rw [h]
  exact ⟨rfl, rfl⟩
theorem octE_odd {zs : List Int} {l : List ByteArray} (h : zs.any oddI = true) : octE zs l = 4 ∧ octB zs l = [] := by
  unfold octE octB
  rw [if_pos h, if_pos h]
  exact ⟨rfl, rfl⟩
theorem kindB_l (j : Nat) (hj : j < 29) : kindB (j : Int) = ((⟨#[]⟩ :: kindNames : List ByteArray)).getD j ⟨#[]⟩ := by
  cases j with
  | zero => rfl
  | succ j =>
    have := kindB_in j (by omega)
    rw [show (((j + 1 : Nat)) : Int) = (j : Int) + 1 by omega, this]
    rfl
set_option maxRecDepth 100000 in
set_option maxHeartbeats 8000000 in
theorem rtel_any (w : World) (hT : Tab w) (r : Req) (hr : r.Ok) (p : Rep) (hp : Rep.At w 0 w.heap.size p) (hb : (p.list.n + 3) * 16 ≤ 140737488355328) (kind : Int) (k0 : -9223372036854775808 ≤ kind) (k1 : kind ≤ 9223372036854775807) :
    Calls Tryd.prog 3 #[.agg r.cells.toArray, .agg p.cells.toArray, .int .i64 kind] w fun e w' => e = .returned (.bool true) ∧ Ext w w' := by
  have HT := Lib.hid hT
  have HR := Lib.hid hr
  have HP := Lib.hid hp
  have HBd := Lib.hid hb
  have HOc := Lib.hid (fun w1 => octets_any r w1 hr)
  have HRp := Lib.hid (fun w1 (e : Ext w w1) => reply_any p w1 (hp.on e (Nat.le_refl _)) hb)
  have HKd := Lib.hid (fun w1 (e : Ext w w1) => kind_any w1 (hT.ext e) kind k0 k1)
  have HCh := Lib.hid (fun w1 => changes_any w1 kind k0 k1)
  have HRc := Lib.hid (fun w1 => rchanges_any w1 kind k0 k1)
  have HAl := Lib.hid (fun w1 (e : Ext w w1) => alive29_any w1 (hT.ext e))
  clear hT hr hp hb
  obtain ⟨tn, us, ki, pa, na, ot, ix, cn, da⟩ := r
  obtain ⟨er, nu, dp, ⟨lA, ln, lc, lx⟩⟩ := p
  obtain ⟨i0, hi0, hz0, hz1, hz2⟩ := info_parts info9
  have HNk := Lib.hid (fun w1 => rnum_any ki w1 HR.out.k.1 HR.out.k.2)
  have HNi := Lib.hid (fun w1 => rnum_any ix w1 HR.out.i.1 HR.out.i.2)
  have HNc := Lib.hid (fun w1 => rnum_any cn w1 HR.out.c.1 HR.out.c.2)
  have HNe := Lib.hid (fun w1 => rnum_any er w1 HP.out.e.1 HP.out.e.2)
  have HNn := Lib.hid (fun w1 => rnum_any nu w1 HP.out.n.1 HP.out.n.2)
  have HAm3 := Lib.hid (fun w1 A lo hi (hr : Rd w1 lo hi A (ints [ki, ix, cn])) (hh : hi ≤ w1.heap.size) => amounts_any w1 A 3 3 lo hi [ki, ix, cn] rfl (by omega) hr hh)
  have HAm2 := Lib.hid (fun w1 A lo hi (hr : Rd w1 lo hi A (ints [er, nu])) (hh : hi ≤ w1.heap.size) => amounts_any w1 A 2 2 lo hi [er, nu] rfl (by omega) hr hh)
  have HE1 := Lib.hid (show Req.ints ⟨tn, us, ki, pa, na, ot, ix, cn, da⟩ = [ki, ix, cn] from rfl)
  have HE2 := Lib.hid (show Rep.ints ⟨er, nu, dp, ⟨lA, ln, lc, lx⟩⟩ = [er, nu] from rfl)
  have HT1 := Lib.hid (show Req.texts ⟨tn, us, ki, pa, na, ot, ix, cn, da⟩ = [tn, us, num8 ki, pa, na, ot, num8 ix, num8 cn, da] from rfl)
  have HT2 := Lib.hid (show Rep.texts ⟨er, nu, dp, ⟨lA, ln, lc, lx⟩⟩ = [num8 er, num8 nu, dp] ++ lx from rfl)
  rw [HE1.out, HT1.out] at HOc
  rw [HE2.out, HT2.out] at HRp
  clear HE1 HE2 HT1 HT2
  have HY1 := Lib.hid (fun h => octE_yes (zs := [ki, ix, cn]) (l := [tn, us, num8 ki, pa, na, ot, num8 ix, num8 cn, da]) h)
  have HY2 := Lib.hid (fun h => octE_yes (zs := [er, nu]) (l := [num8 er, num8 nu, dp] ++ lx) h)
  have HD1 := Lib.hid (fun h => octE_odd (zs := [ki, ix, cn]) (l := [tn, us, num8 ki, pa, na, ot, num8 ix, num8 cn, da]) h)
  have HD2 := Lib.hid (fun h => octE_odd (zs := [er, nu]) (l := [num8 er, num8 nu, dp] ++ lx) h)
  generalize octE [ki, ix, cn] [tn, us, num8 ki, pa, na, ot, num8 ix, num8 cn, da] = E1 at *
  generalize octB [ki, ix, cn] [tn, us, num8 ki, pa, na, ot, num8 ix, num8 cn, da] = B1 at *
  generalize octE [er, nu] ([num8 er, num8 nu, dp] ++ lx) = E2 at *
  generalize octB [er, nu] ([num8 er, num8 nu, dp] ++ lx) = B2 at *
  generalize [ki, ix, cn].any oddI = o1 at *
  generalize [er, nu].any oddI = o2 at *
  simp only [Req.cells, Rep.cells, Sl.val] at HOc HRp ⊢
  go_enter Tryd.func3, Tryd.ntmps3
  go_upto_region 1 with fail
  generalize hw1 : World.alloc w _ = w1
  obtain ⟨e1, z1, G1⟩ := box_cells hw1
  clear hw1
  generalize hw2 : World.alloc w1 _ = w2
  obtain ⟨e2, z2, G2⟩ := box_cells hw2
  clear hw2
  rw [z1] at G2
  have a0 := fun w' (e : Ext w2 w') => G1 0 _ rfl w' (e2.trans e)
  have a1 := fun w' (e : Ext w2 w') => G1 1 _ rfl w' (e2.trans e)
  have a2 := fun w' (e : Ext w2 w') => G1 2 _ rfl w' (e2.trans e)
  have a3 := fun w' (e : Ext w2 w') => G1 3 _ rfl w' (e2.trans e)
  have a4 := fun w' (e : Ext w2 w') => G1 4 _ rfl w' (e2.trans e)
  have a5 := fun w' (e : Ext w2 w') => G1 5 _ rfl w' (e2.trans e)
  have a6 := fun w' (e : Ext w2 w') => G1 6 _ rfl w' (e2.trans e)
  have a7 := fun w' (e : Ext w2 w') => G1 7 _ rfl w' (e2.trans e)
  have a8 := fun w' (e : Ext w2 w') => G1 8 _ rfl w' (e2.trans e)
  have b0 := G2 0 _ rfl
  have b1 := G2 1 _ rfl
  have b2 := G2 2 _ rfl
  have b3 := G2 3 _ rfl
  have x2 : Ext w w2 := e1.trans e2
  have Z2 := Lib.hid (show w2.heap.size = w.heap.size + 2 by omega)
  clear G1 G2 z1 z2 e1 e2
  have r2 := Ext.refl w2
  go_wp2_with fail
  refine (HOc.out w2).mono ?_
  rintro e w3 ⟨v, rfl, hown, e3⟩
  have HO1 := Lib.hid (Octs.own hown)
  obtain ⟨A3, cap3, rfl, _, _, _⟩ := own_form hown
  clear hown
  have x3 : Ext w w3 := x2.trans e3
  go_wp2_with fail
  refine (HRp.out w3 x3).mono ?_
  rintro e w4 ⟨v, rfl, hown, e4⟩
  have HO2 := Lib.hid (Octs.own hown)
  obtain ⟨A4, cap4, rfl, _, _, _⟩ := own_form hown
  clear hown
  have e24 : Ext w2 w4 := e3.trans e4
  have x4 : Ext w w4 := x2.trans e24
  have HO1' := Lib.hid (HO1.out.ext e4)
  clear HO1
  have c0 := fun w' (e : Ext w4 w') => a0 w' (e24.trans e)
  have c1 := fun w' (e : Ext w4 w') => a1 w' (e24.trans e)
  have c2 := fun w' (e : Ext w4 w') => a2 w' (e24.trans e)
  have c3 := fun w' (e : Ext w4 w') => a3 w' (e24.trans e)
  have c4 := fun w' (e : Ext w4 w') => a4 w' (e24.trans e)
  have c5 := fun w' (e : Ext w4 w') => a5 w' (e24.trans e)
  have c6 := fun w' (e : Ext w4 w') => a6 w' (e24.trans e)
  have c7 := fun w' (e : Ext w4 w') => a7 w' (e24.trans e)
  have c8 := fun w' (e : Ext w4 w') => a8 w' (e24.trans e)
  clear e3 e4 r2
  go_wp2_with fail
  have r4 := Ext.refl w4
  refine wp_region_held_drew (S := fun w' => Ext w4 w') (by kernel_rfl) (by (repeat (first | exact Below.refl _ _ | exact Ext.refl _ | assumption | refine Below.drew ?_ | refine below_drewN ?_ _ | refine below_alloc ?_ (by first | exact Nat.le_refl _ | assumption | (simp; done) | omega | (simp; omega)) _ | refine below_ext ?_ (by assumption) (by first | exact Nat.le_refl _ | assumption | (simp; done) | omega | (simp; omega)) | refine Ext.drew ?_ | refine Ext.drewN ?_ _ | refine Ext.alloc ?_ _ | refine Ext.setCell ?_ (by first | assumption | (simp; done) | (simp; omega)) _ | refine Below.setCell ?_ (by first | assumption | (simp; done) | (simp; omega)) _ | refine Ext.trans ?_ (by assumption)))) (fun hHeld => ?_)
  refine takeL 0 (v := ?_) rfl (by kernel_rfl) (by kernel_rfl) (by kernel_rfl) (fun _ _ _ h => h) (by kernel_rfl) ?_ (by assumption) ?_; rotate_left; (focus (intro w hSw; (try dsimp only at hSw); go_simp <;> with_reducible rfl)); try simp only [Act.put, List.setIfInBounds_toArray, List.set_cons_zero, List.set_cons_succ]
  refine takeL 1 (v := ?_) rfl (by kernel_rfl) (by kernel_rfl) (by kernel_rfl) (fun _ _ _ h => h) (by kernel_rfl) ?_ (by assumption) ?_; rotate_left; (focus (intro w hSw; (try dsimp only at hSw); go_simp <;> with_reducible rfl)); try simp only [Act.put, List.setIfInBounds_toArray, List.set_cons_zero, List.set_cons_succ]
  refine takeL 2 (v := ?_) rfl (by kernel_rfl) (by kernel_rfl) (by kernel_rfl) (fun _ _ _ h => h) (by kernel_rfl) ?_ (by assumption) ?_; rotate_left; (focus (intro w hSw; (try dsimp only at hSw); go_simp <;> with_reducible rfl)); try simp only [Act.put, List.setIfInBounds_toArray, List.set_cons_zero, List.set_cons_succ]
  refine takeL 3 (v := ?_) rfl (by kernel_rfl) (by kernel_rfl) (by kernel_rfl) (fun _ _ _ h => h) (by kernel_rfl) ?_ (by assumption) ?_; rotate_left; (focus (intro w hSw; (try dsimp only at hSw); go_simp <;> with_reducible rfl)); try simp only [Act.put, List.setIfInBounds_toArray, List.set_cons_zero, List.set_cons_succ]
  refine takeL 4 (v := ?_) rfl (by kernel_rfl) (by kernel_rfl) (by kernel_rfl) (fun _ _ _ h => h) (by kernel_rfl) ?_ (by assumption) ?_; rotate_left; (focus (intro w hSw; (try dsimp only at hSw); go_simp <;> with_reducible rfl)); try simp only [Act.put, List.setIfInBounds_toArray, List.set_cons_zero, List.set_cons_succ]
  refine takeL 5 (v := ?_) rfl (by kernel_rfl) (by kernel_rfl) (by kernel_rfl) (fun _ _ _ h => h) (by kernel_rfl) ?_ (by assumption) ?_; rotate_left; (focus (intro w hSw; (try dsimp only at hSw); go_simp <;> with_reducible rfl)); try simp only [Act.put, List.setIfInBounds_toArray, List.set_cons_zero, List.set_cons_succ]
  refine takeL 7 (v := ?_) rfl (by kernel_rfl) (by kernel_rfl) (by kernel_rfl) (fun _ _ _ h => h) (by kernel_rfl) ?_ (by assumption) ?_; rotate_left; (focus (intro w hSw; (try dsimp only at hSw); go_simp <;> with_reducible rfl)); try simp only [Act.put, List.setIfInBounds_toArray, List.set_cons_zero, List.set_cons_succ]
  refine takeL 8 (v := ?_) rfl (by kernel_rfl) (by kernel_rfl) (by kernel_rfl) (fun _ _ _ h => h) (by kernel_rfl) ?_ (by assumption) ?_; rotate_left; (focus (intro w hSw; (try dsimp only at hSw); go_simp <;> with_reducible rfl)); try simp only [Act.put, List.setIfInBounds_toArray, List.set_cons_zero, List.set_cons_succ]
  refine takeL 9 (v := ?_) rfl (by kernel_rfl) (by kernel_rfl) (by kernel_rfl) (fun _ _ _ h => h) (by kernel_rfl) ?_ (by assumption) ?_; rotate_left; (focus (intro w hSw; (try dsimp only at hSw); go_simp <;> with_reducible rfl)); try simp only [Act.put, List.setIfInBounds_toArray, List.set_cons_zero, List.set_cons_succ]
  refine takeL 10 (v := ?_) rfl (by kernel_rfl) (by kernel_rfl) (by kernel_rfl) (fun _ _ _ h => h) (by kernel_rfl) ?_ (by assumption) ?_; rotate_left; (focus (intro w hSw; (try dsimp only at hSw); go_simp <;> with_reducible rfl)); try simp only [Act.put, List.setIfInBounds_toArray, List.set_cons_zero, List.set_cons_succ]
  refine takeL 11 (v := ?_) rfl (by kernel_rfl) (by kernel_rfl) (by kernel_rfl) (fun _ _ _ h => h) (by kernel_rfl) ?_ (by assumption) ?_; rotate_left; (focus (intro w hSw; (try dsimp only at hSw); go_simp <;> with_reducible rfl)); try simp only [Act.put, List.setIfInBounds_toArray, List.set_cons_zero, List.set_cons_succ]
  refine takeL 12 (v := ?_) rfl (by kernel_rfl) (by kernel_rfl) (by kernel_rfl) (fun _ _ _ h => h) (by kernel_rfl) ?_ (by assumption) ?_; rotate_left; (focus (intro w hSw; (try dsimp only at hSw); go_simp <;> with_reducible rfl)); try simp only [Act.put, List.setIfInBounds_toArray, List.set_cons_zero, List.set_cons_succ]
  refine takeL 13 (v := ?_) rfl (by kernel_rfl) (by kernel_rfl) (by kernel_rfl) (fun _ _ _ h => h) (by kernel_rfl) ?_ (by assumption) ?_; rotate_left; (focus (intro w hSw; (try dsimp only at hSw); go_simp <;> with_reducible rfl)); try simp only [Act.put, List.setIfInBounds_toArray, List.set_cons_zero, List.set_cons_succ]
  refine takeL 14 (v := ?_) rfl (by kernel_rfl) (by kernel_rfl) (by kernel_rfl) (fun _ _ _ h => h) (by kernel_rfl) ?_ (by assumption) ?_; rotate_left; (focus (intro w hSw; (try dsimp only at hSw); go_simp <;> with_reducible rfl)); try simp only [Act.put, List.setIfInBounds_toArray, List.set_cons_zero, List.set_cons_succ]
  refine takeL 16 (v := ?_) rfl (by kernel_rfl) (by kernel_rfl) (by kernel_rfl) (fun _ _ _ h => h) (by kernel_rfl) ?_ (by assumption) ?_; rotate_left; (focus (intro w hSw; (try dsimp only at hSw); go_simp <;> with_reducible rfl)); try simp only [Act.put, List.setIfInBounds_toArray, List.set_cons_zero, List.set_cons_succ]
  refine takeL 17 (v := ?_) rfl (by kernel_rfl) (by kernel_rfl) (by kernel_rfl) (fun _ _ _ h => h) (by kernel_rfl) ?_ (by assumption) ?_; rotate_left; (focus (intro w hSw; (try dsimp only at hSw); go_simp <;> with_reducible rfl)); try simp only [Act.put, List.setIfInBounds_toArray, List.set_cons_zero, List.set_cons_succ]
  refine takeL 19 (v := ?_) rfl (by kernel_rfl) (by kernel_rfl) (by kernel_rfl) (fun _ _ _ h => h) (by kernel_rfl) ?_ (by assumption) ?_; rotate_left; (focus (intro w hSw; (try dsimp only at hSw); go_simp <;> with_reducible rfl)); try simp only [Act.put, List.setIfInBounds_toArray, List.set_cons_zero, List.set_cons_succ]
  refine takeL 20 (v := ?_) rfl (by kernel_rfl) (by kernel_rfl) (by kernel_rfl) (fun _ _ _ h => h) (by kernel_rfl) ?_ (by assumption) ?_; rotate_left; (focus (intro w hSw; (try dsimp only at hSw); go_simp <;> with_reducible rfl)); try simp only [Act.put, List.setIfInBounds_toArray, List.set_cons_zero, List.set_cons_succ]
  refine oneL 6 rfl (by kernel_rfl) (by kernel_rfl) (fun K hK => ?_); go_simp
  refine (HNk.out _).mono ?_
  rintro e w5 ⟨rfl, e5⟩
  have f5 : Ext w4 w5 := by (repeat (first | exact Below.refl _ _ | exact Ext.refl _ | assumption | refine Below.drew ?_ | refine below_drewN ?_ _ | refine below_alloc ?_ (by first | exact Nat.le_refl _ | assumption | (simp; done) | omega | (simp; omega)) _ | refine below_ext ?_ (by assumption) (by first | exact Nat.le_refl _ | assumption | (simp; done) | omega | (simp; omega)) | refine Ext.drew ?_ | refine Ext.drewN ?_ _ | refine Ext.alloc ?_ _ | refine Ext.setCell ?_ (by first | assumption | (simp; done) | (simp; omega)) _ | refine Below.setCell ?_ (by first | assumption | (simp; done) | (simp; omega)) _ | refine Ext.trans ?_ (by assumption)))
  go_wp2_with fail
  refine hK.out _ _ f5 (fun hHeld => ?_)
  clear hK K
  try simp only [Act.put, List.setIfInBounds_toArray, List.set_cons_zero, List.set_cons_succ]
  refine oneL 15 rfl (by kernel_rfl) (by kernel_rfl) (fun K hK => ?_); go_simp
  refine (HNi.out _).mono ?_
  rintro e w6 ⟨rfl, e6⟩
  have f6 : Ext w4 w6 := by (repeat (first | exact Below.refl _ _ | exact Ext.refl _ | assumption | refine Below.drew ?_ | refine below_drewN ?_ _ | refine below_alloc ?_ (by first | exact Nat.le_refl _ | assumption | (simp; done) | omega | (simp; omega)) _ | refine below_ext ?_ (by assumption) (by first | exact Nat.le_refl _ | assumption | (simp; done) | omega | (simp; omega)) | refine Ext.drew ?_ | refine Ext.drewN ?_ _ | refine Ext.alloc ?_ _ | refine Ext.setCell ?_ (by first | assumption | (simp; done) | (simp; omega)) _ | refine Below.setCell ?_ (by first | assumption | (simp; done) | (simp; omega)) _ | refine Ext.trans ?_ (by assumption)))
  go_wp2_with fail
  refine hK.out _ _ f6 (fun hHeld => ?_)
  clear hK K
  try simp only [Act.put, List.setIfInBounds_toArray, List.set_cons_zero, List.set_cons_succ]
  refine oneL 18 rfl (by kernel_rfl) (by kernel_rfl) (fun K hK => ?_); go_simp
  refine (HNc.out _).mono ?_
  rintro e w7 ⟨rfl, e7⟩
  have f7 : Ext w4 w7 := by (repeat (first | exact Below.refl _ _ | exact Ext.refl _ | assumption | refine Below.drew ?_ | refine below_drewN ?_ _ | refine below_alloc ?_ (by first | exact Nat.le_refl _ | assumption | (simp; done) | omega | (simp; omega)) _ | refine below_ext ?_ (by assumption) (by first | exact Nat.le_refl _ | assumption | (simp; done) | omega | (simp; omega)) | refine Ext.drew ?_ | refine Ext.drewN ?_ _ | refine Ext.alloc ?_ _ | refine Ext.setCell ?_ (by first | assumption | (simp; done) | (simp; omega)) _ | refine Below.setCell ?_ (by first | assumption | (simp; done) | (simp; omega)) _ | refine Ext.trans ?_ (by assumption)))
  go_wp2_with fail
  refine hK.out _ _ f7 (fun hHeld => ?_)
  clear hK K
  try simp only [Act.put, List.setIfInBounds_toArray, List.set_cons_zero, List.set_cons_succ]
  refine oneL 21 rfl (by kernel_rfl) (by kernel_rfl) (fun K hK => ?_); go_simp
  generalize hw8 : World.alloc w7 _ = w8
  have HNw : Hid (Rd w8 0 w8.heap.size (some ⟨w7.heap.size, 0, none⟩) (([tn, us, num8 ki, pa, na, ot, num8 ix, num8 cn, da] : List ByteArray).map Value.string)) := by
    subst hw8
    have := (rd_new w7 #[.string tn, .string us, .string (num8 ki), .string pa, .string na, .string ot, .string (num8 ix), .string (num8 cn), .string da] 9)
    rw [Hid]
    simpa using this.more (Nat.zero_le _) (Nat.le_refl _)
  have e8 := box_drop hw8
  have f8 : Ext w4 w8 := f7.trans e8
  clear hw8
  refine hK.out _ _ f8 (fun hHeld => ?_)
  clear hK K
  try simp only [Act.put, List.setIfInBounds_toArray, List.set_cons_zero, List.set_cons_succ]
  refine oneL 22 rfl (by kernel_rfl) (by kernel_rfl) (fun K hK => ?_); go_simp
  refine (rwrite_any w8 _ 9 9 _ rfl (by omega) HNw.out).mono ?_
  rintro e w9 ⟨v, rfl, hown, e9⟩
  have HO3 := Lib.hid (Octs.own hown)
  clear hown
  have f9 : Ext w4 w9 := f8.trans e9
  go_wp2_with fail
  refine hK.out _ _ f9 (fun hHeld => ?_)
  clear hK K
  try simp only [Act.put, List.setIfInBounds_toArray, List.set_cons_zero, List.set_cons_succ]
  refine takeL 23 (v := ?_) rfl (by kernel_rfl) (by kernel_rfl) (by kernel_rfl) (fun _ _ _ h => h) (by kernel_rfl) ?_ (by assumption) ?_; rotate_left; (focus (intro w hSw; (try dsimp only at hSw); go_simp <;> with_reducible rfl)); try simp only [Act.put, List.setIfInBounds_toArray, List.set_cons_zero, List.set_cons_succ]
  refine takeL 24 (v := ?_) rfl (by kernel_rfl) (by kernel_rfl) (by kernel_rfl) (fun _ _ _ h => h) (by kernel_rfl) ?_ (by assumption) ?_; rotate_left; (focus (intro w hSw; (try dsimp only at hSw); go_simp <;> with_reducible rfl)); try simp only [Act.put, List.setIfInBounds_toArray, List.set_cons_zero, List.set_cons_succ]
  refine takeL 25 (v := ?_) rfl (by kernel_rfl) (by kernel_rfl) (by kernel_rfl) (fun _ _ _ h => h) (by kernel_rfl) ?_ (by assumption) ?_; rotate_left; (focus (intro w hSw; (try dsimp only at hSw); go_simp <;> with_reducible rfl)); try simp only [Act.put, List.setIfInBounds_toArray, List.set_cons_zero, List.set_cons_succ]
  refine takeL 26 (v := ?_) rfl (by kernel_rfl) (by kernel_rfl) (by kernel_rfl) (fun _ _ _ h => h) (by kernel_rfl) ?_ (by assumption) ?_; rotate_left; (focus (intro w hSw; (try dsimp only at hSw); go_simp <;> with_reducible rfl)); try simp only [Act.put, List.setIfInBounds_toArray, List.set_cons_zero, List.set_cons_succ]
  refine takeL 27 (v := ?_) rfl (by kernel_rfl) (by kernel_rfl) (by kernel_rfl) (fun _ _ _ h => h) (by kernel_rfl) ?_ (by assumption) ?_; rotate_left; (focus (intro w hSw; (try dsimp only at hSw); go_simp <;> with_reducible rfl)); try simp only [Act.put, List.setIfInBounds_toArray, List.set_cons_zero, List.set_cons_succ]
  refine wpAnyH_done (by kernel_rfl) ?_ _
  clear f5 f6 f7 f8 e5 e6 e7 e8 e9 r4 c0 c1 c2 c3 c4 c5 c6 c7 c8 hHeld
  have e29 : Ext w2 w9 := e24.trans f9
  have x9 : Ext w w9 := x2.trans e29
  have d2 := a2 _ e29
  have d6 := a6 _ e29
  have d7 := a7 _ e29
  have HO1 := Lib.hid (HO1'.out.ext f9)
  have HO2' := Lib.hid (HO2.out.ext f9)
  clear HO1' HO2
  go_upto_if 61 with ((go_at_call 10; refine (HAm3.out _ _ _ _ (rd_new _ _ _) (by simp)).mono ?_; rintro e wa ⟨rfl, ea⟩; have fa : Ext w9 wa := ((Ext.refl _).alloc _).trans ea))
  go_cut [11, 12] from 53 to 61 (fun x g wx => CutR E1 B1 w9 x g wx)
  case first =>
    cases o1
    · have HY := Lib.hid (HY1.out rfl)
      go_wp2_with fail
      go_meet
      exact ⟨by rw [HY.out.1], by rw [HY.out.2]; exact HO3.out.ext fa, fa⟩
    · have HY := Lib.hid (HD1.out rfl)
      go_wp2_with fail
      go_meet
      exact ⟨by rw [HY.out.1], by rw [HY.out.2]; exact ⟨none, 0, rfl, Rd.nil⟩, fa⟩
  case rest =>
    obtain ⟨rfl, hox, e10⟩ := hcut
    obtain ⟨A11, cap11, rfl, hrx⟩ := hox
    have HX := Lib.hid (show Octs B1 wc (.slice A11 B1.length cap11) from ⟨A11, cap11, rfl, hrx⟩)
    have e2c := e29.trans e10
    have HO1c := Lib.hid (HO1.out.ext e10)
    have HO2c := Lib.hid (HO2'.out.ext e10)
    have b0 := fun w' (e : Ext wc w') => b0 w' (e2c.trans e)
    have b1 := fun w' (e : Ext wc w') => b1 w' (e2c.trans e)
    have b2 := fun w' (e : Ext wc w') => b2 w' (e2c.trans e)
    have b3 := fun w' (e : Ext wc w') => b3 w' (e2c.trans e)
    clear hrx HO1 HO2' HO3 a0 a1 a2 a3 a4 a5 a6 a7 a8
    have xc := x9.trans e10
    have rc := Ext.refl wc
    go_wp2_with fail
    refine wp_region_held_drew (S := fun w' => Ext wc w') (by kernel_rfl) (by (repeat (first | exact Below.refl _ _ | exact Ext.refl _ | assumption | refine Below.drew ?_ | refine below_drewN ?_ _ | refine below_alloc ?_ (by first | exact Nat.le_refl _ | assumption | (simp; done) | omega | (simp; omega)) _ | refine below_ext ?_ (by assumption) (by first | exact Nat.le_refl _ | assumption | (simp; done) | omega | (simp; omega)) | refine Ext.drew ?_ | refine Ext.drewN ?_ _ | refine Ext.alloc ?_ _ | refine Ext.setCell ?_ (by first | assumption | (simp; done) | (simp; omega)) _ | refine Below.setCell ?_ (by first | assumption | (simp; done) | (simp; omega)) _ | refine Ext.trans ?_ (by assumption)))) (fun hHeld => ?_)
    refine takeL 0 (v := ?_) rfl (by kernel_rfl) (by kernel_rfl) (by kernel_rfl) (fun _ _ _ h => h) (by kernel_rfl) ?_ (by assumption) ?_; rotate_left; (focus (intro w hSw; (try dsimp only at hSw); go_simp <;> with_reducible rfl)); try simp only [Act.put, List.setIfInBounds_toArray, List.set_cons_zero, List.set_cons_succ]
    refine takeL 1 (v := ?_) rfl (by kernel_rfl) (by kernel_rfl) (by kernel_rfl) (fun _ _ _ h => h) (by kernel_rfl) ?_ (by assumption) ?_; rotate_left; (focus (intro w hSw; (try dsimp only at hSw); go_simp <;> with_reducible rfl)); try simp only [Act.put, List.setIfInBounds_toArray, List.set_cons_zero, List.set_cons_succ]
    refine takeL 3 (v := ?_) rfl (by kernel_rfl) (by kernel_rfl) (by kernel_rfl) (fun _ _ _ h => h) (by kernel_rfl) ?_ (by assumption) ?_; rotate_left; (focus (intro w hSw; (try dsimp only at hSw); go_simp <;> with_reducible rfl)); try simp only [Act.put, List.setIfInBounds_toArray, List.set_cons_zero, List.set_cons_succ]
    refine takeL 4 (v := ?_) rfl (by kernel_rfl) (by kernel_rfl) (by kernel_rfl) (fun _ _ _ h => h) (by kernel_rfl) ?_ (by assumption) ?_; rotate_left; (focus (intro w hSw; (try dsimp only at hSw); go_simp <;> with_reducible rfl)); try simp only [Act.put, List.setIfInBounds_toArray, List.set_cons_zero, List.set_cons_succ]
    refine takeL 6 (v := ?_) rfl (by kernel_rfl) (by kernel_rfl) (by kernel_rfl) (fun _ _ _ h => h) (by kernel_rfl) ?_ (by assumption) ?_; rotate_left; (focus (intro w hSw; (try dsimp only at hSw); go_simp <;> with_reducible rfl)); try simp only [Act.put, List.setIfInBounds_toArray, List.set_cons_zero, List.set_cons_succ]
    refine takeL 7 (v := ?_) rfl (by kernel_rfl) (by kernel_rfl) (by kernel_rfl) (fun _ _ _ h => h) (by kernel_rfl) ?_ (by assumption) ?_; rotate_left; (focus (intro w hSw; (try dsimp only at hSw); go_simp <;> with_reducible rfl)); try simp only [Act.put, List.setIfInBounds_toArray, List.set_cons_zero, List.set_cons_succ]
    refine takeL 9 (v := ?_) rfl (by kernel_rfl) (by kernel_rfl) (by kernel_rfl) (fun _ _ _ h => h) (by kernel_rfl) ?_ (by assumption) ?_; rotate_left; (focus (intro w hSw; (try dsimp only at hSw); go_simp <;> with_reducible rfl)); try simp only [Act.put, List.setIfInBounds_toArray, List.set_cons_zero, List.set_cons_succ]
    refine takeL 10 (v := ?_) rfl (by kernel_rfl) (by kernel_rfl) (by kernel_rfl) (fun _ _ _ h => h) (by kernel_rfl) ?_ (by assumption) ?_; rotate_left; (focus (intro w hSw; (try dsimp only at hSw); go_simp <;> with_reducible rfl)); try simp only [Act.put, List.setIfInBounds_toArray, List.set_cons_zero, List.set_cons_succ]
    refine oneL 2 rfl (by kernel_rfl) (by kernel_rfl) (fun K hK => ?_); go_simp
    refine (HNe.out _).mono ?_
    rintro e v5 ⟨rfl, e5⟩
    have f5 : Ext wc v5 := by (repeat (first | exact Below.refl _ _ | exact Ext.refl _ | assumption | refine Below.drew ?_ | refine below_drewN ?_ _ | refine below_alloc ?_ (by first | exact Nat.le_refl _ | assumption | (simp; done) | omega | (simp; omega)) _ | refine below_ext ?_ (by assumption) (by first | exact Nat.le_refl _ | assumption | (simp; done) | omega | (simp; omega)) | refine Ext.drew ?_ | refine Ext.drewN ?_ _ | refine Ext.alloc ?_ _ | refine Ext.setCell ?_ (by first | assumption | (simp; done) | (simp; omega)) _ | refine Below.setCell ?_ (by first | assumption | (simp; done) | (simp; omega)) _ | refine Ext.trans ?_ (by assumption)))
    go_wp2_with fail
    refine hK.out _ _ f5 (fun hHeld => ?_)
    clear hK K
    try simp only [Act.put, List.setIfInBounds_toArray, List.set_cons_zero, List.set_cons_succ]
    refine oneL 5 rfl (by kernel_rfl) (by kernel_rfl) (fun K hK => ?_); go_simp
    refine (HNn.out _).mono ?_
    rintro e v6 ⟨rfl, e6⟩
    have f6 : Ext wc v6 := by (repeat (first | exact Below.refl _ _ | exact Ext.refl _ | assumption | refine Below.drew ?_ | refine below_drewN ?_ _ | refine below_alloc ?_ (by first | exact Nat.le_refl _ | assumption | (simp; done) | omega | (simp; omega)) _ | refine below_ext ?_ (by assumption) (by first | exact Nat.le_refl _ | assumption | (simp; done) | omega | (simp; omega)) | refine Ext.drew ?_ | refine Ext.drewN ?_ _ | refine Ext.alloc ?_ _ | refine Ext.setCell ?_ (by first | assumption | (simp; done) | (simp; omega)) _ | refine Below.setCell ?_ (by first | assumption | (simp; done) | (simp; omega)) _ | refine Ext.trans ?_ (by assumption)))
    go_wp2_with fail
    refine hK.out _ _ f6 (fun hHeld => ?_)
    clear hK K
    try simp only [Act.put, List.setIfInBounds_toArray, List.set_cons_zero, List.set_cons_succ]
    refine oneL 8 rfl (by kernel_rfl) (by kernel_rfl) (fun K hK => ?_); go_simp
    generalize hw8 : World.alloc v6 _ = v7
    have HOw : Hid (v7.ownsRow v6.heap.size 9 1 (.slice (some ⟨v6.heap.size, 0, none⟩) 3 3) 3 (([num8 er, num8 nu, dp] : List ByteArray).map Value.string)) := by
      subst hw8
      exact (World.ownsRow_lit (base := v6.heap.size) (e := 9) (size := 1) v6 #[.string (num8 er), .string (num8 nu), .string dp] 3 (Nat.le_refl _) (by simp [maxLen]) rfl)
    have e8 := box_drop hw8
    have f7 : Ext wc v7 := f6.trans e8
    clear hw8
    refine hK.out _ _ f7 (fun hHeld => ?_)
    clear hK K
    try simp only [Act.put, List.setIfInBounds_toArray, List.set_cons_zero, List.set_cons_succ]
    refine oneL 11 rfl (by kernel_rfl) (by kernel_rfl) (fun K hK => ?_)
    have hlr := (Rd.at HP.out.rd (xc.trans f7) (Nat.le_refl _))
    have hb9 := HBd.out
    have HLn := Lib.hid (show ln = lx.length from HP.out.len)
    refine wp_append_any v7 (.tmp 71) (.tmp 73) _ rfl v6.heap.size 9 i0 _ 1 16 Tryd.underlying25 hi0 hz0 hz1 hz2 rfl (by omega) (.slice (some ⟨v6.heap.size, 0, none⟩) 3 3) 3 _ rfl HOw.out 0 v7.heap.size lA ln lc (lx.map Value.string) rfl (by rw [List.length_map, HLn.out, Nat.mul_one]) hlr (str_one _) (by unfold maxLen; show 3 + ln ≤ _; have : (ln + 3) * 16 ≤ 140737488355328 := hb9; omega) (by have : (ln + 3) * 16 ≤ 140737488355328 := hb9; omega) e8.size ?_
    intro v4 v8 o5 hg hob
    have e9 : Ext v6 v8 := ext_grown e8 HOw.out hg (Nat.le_refl _)
    have f8 : Ext wc v8 := f6.trans e9
    have HO5 := Lib.hid o5
    clear o5 hg hob hlr
    obtain ⟨A4', c4', rfl, _, _, _⟩ := own_form HO5.out
    refine hK.out _ _ f8 (fun hHeld => ?_)
    clear hK K
    try simp only [Act.put, List.setIfInBounds_toArray, List.set_cons_zero, List.set_cons_succ]
    have HWr := Lib.hid (rwrite_any v8 A4' (3 + ln) c4' ([num8 er, num8 nu, dp] ++ lx) (by rw [List.length_append, ← HLn.out]; rfl) (by have : (ln + 3) * 16 ≤ 140737488355328 := hb9; omega) (by rw [List.map_append]; exact (Rd.of_own HO5.out).more (Nat.zero_le _) (Nat.le_refl _)))
    clear hb9
    refine oneL 12 rfl (by kernel_rfl) (by kernel_rfl) (fun K hK => ?_); go_simp
    refine HWr.out.mono ?_
    rintro e v9 ⟨v, rfl, hown, e9'⟩
    have HO6 := Lib.hid (Octs.own hown)
    clear hown
    have f9 : Ext wc v9 := f8.trans e9'
    go_wp2_with fail
    refine hK.out _ _ f9 (fun hHeld => ?_)
    clear hK K
    try simp only [Act.put, List.setIfInBounds_toArray, List.set_cons_zero, List.set_cons_succ]
    refine takeL 13 (v := ?_) rfl (by kernel_rfl) (by kernel_rfl) (by kernel_rfl) (fun _ _ _ h => h) (by kernel_rfl) ?_ (by assumption) ?_; rotate_left; (focus (intro w hSw; (try dsimp only at hSw); go_simp <;> with_reducible rfl)); try simp only [Act.put, List.setIfInBounds_toArray, List.set_cons_zero, List.set_cons_succ]
    refine takeL 14 (v := ?_) rfl (by kernel_rfl) (by kernel_rfl) (by kernel_rfl) (fun _ _ _ h => h) (by kernel_rfl) ?_ (by assumption) ?_; rotate_left; (focus (intro w hSw; (try dsimp only at hSw); go_simp <;> with_reducible rfl)); try simp only [Act.put, List.setIfInBounds_toArray, List.set_cons_zero, List.set_cons_succ]
    refine takeL 15 (v := ?_) rfl (by kernel_rfl) (by kernel_rfl) (by kernel_rfl) (fun _ _ _ h => h) (by kernel_rfl) ?_ (by assumption) ?_; rotate_left; (focus (intro w hSw; (try dsimp only at hSw); go_simp <;> with_reducible rfl)); try simp only [Act.put, List.setIfInBounds_toArray, List.set_cons_zero, List.set_cons_succ]
    refine takeL 16 (v := ?_) rfl (by kernel_rfl) (by kernel_rfl) (by kernel_rfl) (fun _ _ _ h => h) (by kernel_rfl) ?_ (by assumption) ?_; rotate_left; (focus (intro w hSw; (try dsimp only at hSw); go_simp <;> with_reducible rfl)); try simp only [Act.put, List.setIfInBounds_toArray, List.set_cons_zero, List.set_cons_succ]
    refine takeL 17 (v := ?_) rfl (by kernel_rfl) (by kernel_rfl) (by kernel_rfl) (fun _ _ _ h => h) (by kernel_rfl) ?_ (by assumption) ?_; rotate_left; (focus (intro w hSw; (try dsimp only at hSw); go_simp <;> with_reducible rfl)); try simp only [Act.put, List.setIfInBounds_toArray, List.set_cons_zero, List.set_cons_succ]
    refine wpAnyH_done (by kernel_rfl) ?_ _
    have d0 := b0 _ f9
    have d1 := b1 _ f9
    have HXd := Lib.hid (HX.out.ext f9)
    have HO1d := Lib.hid (HO1c.out.ext f9)
    have HO2d := Lib.hid (HO2c.out.ext f9)
    have xd := xc.trans f9
    clear f5 f6 f7 f8 f9 e5 e6 e8 e9 e9' rc b0 b1 b2 b3 hHeld HX HO1c HO2c
    go_upto_if 84 with ((go_at_call 10; refine (HAm2.out _ _ _ _ (rd_new _ _ _) (by simp)).mono ?_; rintro e wa ⟨rfl, ea⟩; have fa : Ext v9 wa := ((Ext.refl _).alloc _).trans ea))
    go_cut [13, 14] from 78 to 84 (fun x g wx => CutR E2 B2 v9 x g wx)
    case first =>
      cases o2
      · have HY := Lib.hid (HY2.out rfl)
        go_wp2_with fail
        go_meet
        exact ⟨by rw [HY.out.1]; rfl, by rw [HY.out.2]; exact HO6.out.ext fa, fa⟩
      · have HY := Lib.hid (HD2.out rfl)
        go_wp2_with fail
        go_meet
        exact ⟨by rw [HY.out.1], by rw [HY.out.2]; exact ⟨none, 0, rfl, Rd.nil⟩, fa⟩
    case rest =>
      obtain ⟨rfl, hox, e11⟩ := hcut
      obtain ⟨A13, cap13, rfl, hrx⟩ := hox
      have HXb := Lib.hid (show Octs B2 wc (.slice A13 B2.length cap13) from ⟨A13, cap13, rfl, hrx⟩)
      have HXa := Lib.hid (HXd.out.ext e11)
      have HOa := Lib.hid (HO1d.out.ext e11)
      have HOb := Lib.hid (HO2d.out.ext e11)
      have xe := xd.trans e11
      clear hrx HXd HO1d HO2d HO6 d0 d1
      rcases (by omega : kind ≤ 0 ∨ (0 < kind ∧ 29 ≤ kind) ∨ (0 < kind ∧ kind < 29)) with q0 | ⟨q0, q1⟩ | ⟨q0, q1⟩
      · rw [show kindB kind = ⟨#[]⟩ by rw [kindB, if_neg (by omega)]] at HKd
        go_wp2_with fail
        refine (rkinds_any _).mono ?_
        rintro e wk ⟨rfl, hwk⟩
        have ek : Ext wc wk := by rw [hwk]; exact (Ext.refl _).alloc _
        have xk := xe.trans ek
        have va := (HOa.out.ext ek).conv
        have vb := (HXa.out.ext ek).conv
        have vc := (HOb.out.ext ek).conv
        have vd := (HXb.out.ext ek).conv
        clear hwk
        go_wp2_with (first
        | (go_at_call 12; refine (num29_any _ _).mono ?_; rintro e wb ⟨rfl, rfl⟩)
        | (go_at_call 13; refine (HKd.out _ xk).mono ?_; rintro e wp ⟨rfl, ep⟩; have xp := xk.trans ep)
        | (go_at_call 14; refine (HCh.out _).mono ?_; rintro e wq ⟨rfl, rfl⟩)
        | (go_at_call 15; refine (HRc.out _).mono ?_; rintro e wr ⟨rfl, er'⟩; have xr := xp.trans er')
        | (go_at_call 16; refine (HAl.out _ xr).mono ?_; rintro e ws ⟨rfl, es⟩))
        go_ret
        exact ⟨rfl, xr.trans es⟩
      · rw [show kindB kind = ⟨#[]⟩ by rw [kindB, if_neg (by omega)]] at HKd
        go_wp2_with fail
        refine (rkinds_any _).mono ?_
        rintro e wk ⟨rfl, hwk⟩
        have ek : Ext wc wk := by rw [hwk]; exact (Ext.refl _).alloc _
        have xk := xe.trans ek
        have va := (HOa.out.ext ek).conv
        have vb := (HXa.out.ext ek).conv
        have vc := (HOb.out.ext ek).conv
        have vd := (HXb.out.ext ek).conv
        clear hwk
        go_wp2_with (first
        | (go_at_call 12; refine (num29_any _ _).mono ?_; rintro e wb ⟨rfl, rfl⟩)
        | (go_at_call 13; refine (HKd.out _ xk).mono ?_; rintro e wp ⟨rfl, ep⟩; have xp := xk.trans ep)
        | (go_at_call 14; refine (HCh.out _).mono ?_; rintro e wq ⟨rfl, rfl⟩)
        | (go_at_call 15; refine (HRc.out _).mono ?_; rintro e wr ⟨rfl, er'⟩; have xr := xp.trans er')
        | (go_at_call 16; refine (HAl.out _ xr).mono ?_; rintro e ws ⟨rfl, es⟩))
        go_ret
        exact ⟨rfl, xr.trans es⟩
      · obtain ⟨j, rfl⟩ : ∃ j : Nat, kind = (j : Int) := ⟨kind.toNat, by omega⟩
        have hj : j < 29 := by omega
        have hkj := kindB_l j hj
        have hg : ((⟨#[]⟩ :: kindNames : List ByteArray).map Value.string)[j]? = some (.string (kindB (j : Int))) := by
          rw [hkj, List.getElem?_map, List.getD_eq_getElem?_getD]
          have hx : (⟨#[]⟩ :: kindNames : List ByteArray)[j]? = some ((⟨#[]⟩ :: kindNames : List ByteArray)[j]'hj) := List.getElem?_eq_getElem hj
          rw [hx]
          rfl
        have HG := Lib.hid hg
        clear hg hkj
        generalize kindB (j : Int) = nm at *
        have HJ := Lib.hid hj
        clear hj k0 k1
        go_wp2_with fail
        refine (rkinds_any _).mono ?_
        rintro e wk ⟨rfl, hwk⟩
        have hcell : wk.cell? ⟨wc.heap.size, j, none⟩ = some (.string nm) := by rw [hwk]; exact cell_new _ _ _ j (by simpa using HG.out)
        have ek : Ext wc wk := by rw [hwk]; exact (Ext.refl _).alloc _
        have xk := xe.trans ek
        have va := (HOa.out.ext ek).conv
        have vb := (HXa.out.ext ek).conv
        have vc := (HOb.out.ext ek).conv
        have vd := (HXb.out.ext ek).conv
        clear hwk
        go_wp2_with (first
        | (go_at_call 12; refine (num29_any _ _).mono ?_; rintro e wb ⟨rfl, rfl⟩)
        | (go_at_call 13; refine (HKd.out _ xk).mono ?_; rintro e wp ⟨rfl, ep⟩; have xp := xk.trans ep)
        | (go_at_call 14; refine (HCh.out _).mono ?_; rintro e wq ⟨rfl, rfl⟩)
        | (go_at_call 15; refine (HRc.out _).mono ?_; rintro e wr ⟨rfl, er'⟩; have xr := xp.trans er')
        | (go_at_call 16; refine (HAl.out _ xr).mono ?_; rintro e ws ⟨rfl, es⟩))
        go_ret
        exact ⟨rfl, xr.trans es⟩
end Go.Proofs.YtpbbjmfhcgcldaaDoor
