/- The texts Apl, Rtxt, Rput in one file. -/
import Derived.Test.YtmecjjmlccdppaaGreatDoorM20
import Derived.Test.YtmecjjmlccdppaaGreatDoorM11
import Derived.Test.YtmecjjmlccdppaaGreatDoorM15
import Derived.Test.YtmecjjmlccdppaaGreatDoorM8
import Derived.Test.YtmecjjmlccdppaaGreatDoorM19
/- The reference's Apply over one record of kind 2 or 3: the walk. -/
namespace Go.Proofs.YtmecjjmlccdppaaGreatDoor
open Go.RowKit
set_option linter.unusedVariables false
set_option linter.unusedSimpArgs false

def ApOut (w : World) (zs : List Blk) (e : Ending) (w' : World) : Prop :=
  ∃ v E, e = .returned (.tuple #[v, .int .i64 E]) ∧ w'.ownsRow w.heap.size 46 2 v zs.length (blks zs) ∧ Ext w w'
set_option maxRecDepth 100000 in
set_option maxHeartbeats 8000000 in
theorem apply2_any (w : World) (A : Option Addr) (n c : Nat) (xs : List Blk) (hn : n = xs.length) (hN : n ≤ 100000000) (hr : Rd w 0 w.heap.size A (blks xs)) (hwf : ∀ x ∈ xs, x.wf) (hb0 : bkE xs = 0)
    (b : Nat) (r : Rec) (hB : Bx w b r.cells) (hro : Rd w 0 w.heap.size r.oA (prps r.own)) (hrx : r.wf) (hE : recE r = 0) (hk : r.kind = 2) :
    Calls Tryz.prog 39 #[.slice A n c, .slice (some ⟨b, 0, none⟩) 1 1] w (ApOut w (ptd xs r.index r.data)) := by
  have HCk := Lib.hid (fun W (hW : Ext w W) => rbcheck_any W A n c xs hn (by omega) (Rd.at hr hW (Nat.le_refl _)) hwf)
  have HRe := Lib.hid (fun W (hW : Ext w W) => rcheck_any W r (Rd.at hro hW (Nat.le_refl _)) hrx)
  have HOw := Lib.hid (fun W (hW : Ext w W) => rown_any W A n c xs hn (Rd.at hr hW (Nat.le_refl _)) (by omega))
  have HPut := Lib.hid (fun W A' n' c' (h1 : n' = xs.length) (h2 : n' ≤ c') (h3 : c' ≤ maxLen) (hA : Rd W 0 W.heap.size A' (blks xs)) => rput_any' W A' n' c' xs h1 h2 (by simp only [maxLen] at h3; omega) (by omega) hA hwf r.index r.data (by have := hrx.index; omega))
  have HOut := Lib.hid (fun (v : Value) (w' : World) (h : w'.ownsRow w.heap.size 46 2 v (ptd xs r.index r.data).length (blks (ptd xs r.index r.data))) (e : Ext w w') => show ApOut w (ptd xs r.index r.data) (.returned (.tuple #[v, .int .i64 0])) w' from ⟨v, 0, rfl, h, e⟩)
  have Hn := Lib.hid hn
  obtain ⟨OUT, hOUT⟩ : ∃ OUT : Ending → World → Prop, OUT = ApOut w (ptd xs r.index r.data) := ⟨_, rfl⟩
  rw [← hOUT] at HOut ⊢
  clear hOUT hro hrx hn hr hwf
  rw [hb0] at HCk
  rw [hE] at HRe
  clear hb0 hE
  generalize ptd xs r.index r.data = PD at *
  obtain ⟨kind, name, frm, guid, oA, on, oc, own, index, count, data, s0, s1, s2, s3⟩ := r
  dsimp only at hk HPut
  subst hk
  simp only [Rec.cells] at hB HRe
  have HBx := Lib.hid (bx12 hB)
  clear hB
  go_enter Tryz.func39, Tryz.ntmps39
  go_wp2_with fail
  refine (HCk.out w (Ext.refl w)).mono ?_
  rintro e w2 ⟨rfl, e2⟩
  go_wp2_with fail
  go_loopw [6, 7] (fun a v wr => ∃ k : Nat, k ≤ 1 ∧ a = .int .i64 k ∧ Ext w wr) (fun a _ _ => 1 - (intOf a).toNat)
  case atStart => exact ⟨0, by omega, rfl, e2⟩
  case round =>
    obtain ⟨k, hk, rfl, e1⟩ := hrel
    by_cases hlt : k < 1
    · obtain rfl : k = 0 := by omega
      obtain ⟨g0, g1, g2, g3, g4, g5, g6, g7, g8, g9, g10, g11⟩ := HBx.out _ e1
      go_wp2_with fail
      refine (HRe.out _ e1).mono ?_
      rintro e w4 ⟨rfl, e4⟩
      clear g0 g1 g2 g3 g4 g5 g6 g7 g8 g9 g10 g11
      go_wp2_with fail
      go_roundw
      case rel => exact ⟨1, by omega, by go_num, e1.trans e4⟩
      case measure => simp [intOf]
    · obtain rfl : k = 1 := by omega
      go_wp2_with fail
      refine (HOw.out _ e1).mono ?_
      rintro e w5 ⟨v5, rfl, hown5, e5⟩
      have HOwn := Lib.hid (own_lower hown5 e1.size)
      have E5 : Ext w w5 := e1.trans e5
      clear hown5 e5 e1 e2
      go_wp2_with fail
      go_loopw [8, 9] (fun v a wr => ∃ k : Nat, k ≤ 1 ∧ a = .int .i64 k ∧ (k = 0 → wr.ownsRow w.heap.size 46 2 v n (blks xs)) ∧ (k = 1 → wr.ownsRow w.heap.size 46 2 v PD.length (blks PD)) ∧ Ext w wr) (fun _ a _ => 1 - (intOf a).toNat)
      case atStart => exact ⟨0, by omega, rfl, fun _ => HOwn.out, fun h => absurd h (by decide), E5⟩
      case round =>
        obtain ⟨k, hk2, rfl, hq1, hq2, e6⟩ := hrel
        by_cases hlt2 : k < 1
        · obtain rfl : k = 0 := by omega
          have hown6 := hq1 rfl
          clear hq1 hq2
          obtain ⟨A6, c6, rfl, k1, k2, _⟩ := own_form hown6
          have HO6 := Lib.hid hown6
          clear hown6
          have HF := Lib.hid (fun W (e : Ext wr W) => HBx.out W (e6.trans e))
          obtain ⟨g0, g1, g2, g3, g4, g5, g6, g7, g8, g9, g10, g11⟩ := HBx.out _ e6
          go_upto_region 14 with fail
          clear g0 g1 g2 g3 g4 g5 g6 g7 g8 g9 g10 g11
          have g5 := fun W e => (HF.out W e).2.2.2.2.2.1
          have g7 := fun W e => (HF.out W e).2.2.2.2.2.2.2.1
          refine wp_region_held_drew (S := fun w' => Ext wr w') (by kernel_rfl) (by (repeat (first | exact Below.refl _ _ | exact Ext.refl _ | assumption | refine Below.drew ?_ | refine below_drewN ?_ _ | refine below_alloc ?_ (by first | exact Nat.le_refl _ | assumption | (simp; done) | omega | (simp; omega)) _ | refine below_ext ?_ (by assumption) (by first | exact Nat.le_refl _ | assumption | (simp; done) | omega | (simp; omega)) | refine Ext.drew ?_ | refine Ext.drewN ?_ _ | refine Ext.alloc ?_ _ | refine Ext.setCell ?_ (by first | assumption | (simp; done) | (simp; omega)) _ | refine Below.setCell ?_ (by first | assumption | (simp; done) | (simp; omega)) _ | refine Ext.trans ?_ (by assumption)))) (fun hHeld => ?_)
          have Ed : Ext wr (World.drew wr) := Ext.drew (Ext.refl wr)
          generalize hwd : World.drew wr = wd at *
          clear hwd
          refine takeL 0 (v := ?_) rfl (by kernel_rfl) (by kernel_rfl) (by kernel_rfl) (fun _ _ _ h => h) (by kernel_rfl) ?_ (by assumption) ?_; rotate_left; (focus (intro w hSw; (try dsimp only at hSw); go_simp <;> with_reducible rfl)); (try simp only [Act.put, List.setIfInBounds_toArray, List.set_cons_zero, List.set_cons_succ])
          refine takeL 1 (v := ?_) rfl (by kernel_rfl) (by kernel_rfl) (by kernel_rfl) (fun _ _ _ h => h) (by kernel_rfl) ?_ (by assumption) ?_; rotate_left; (focus (intro w hSw; (try dsimp only at hSw); go_simp <;> with_reducible rfl)); (try simp only [Act.put, List.setIfInBounds_toArray, List.set_cons_zero, List.set_cons_succ])
          refine takeL 2 (v := ?_) rfl (by kernel_rfl) (by kernel_rfl) (by kernel_rfl) (fun _ _ _ h => h) (by kernel_rfl) ?_ (by assumption) ?_; rotate_left; (focus (intro w hSw; (try dsimp only at hSw); go_simp <;> with_reducible rfl)); (try simp only [Act.put, List.setIfInBounds_toArray, List.set_cons_zero, List.set_cons_succ])
          refine takeL 3 (v := ?_) rfl (by kernel_rfl) (by kernel_rfl) (by kernel_rfl) (fun _ _ _ h => h) (by kernel_rfl) ?_ (by assumption) ?_; rotate_left; (focus (intro w hSw; (try dsimp only at hSw); go_simp <;> with_reducible rfl)); (try simp only [Act.put, List.setIfInBounds_toArray, List.set_cons_zero, List.set_cons_succ])
          refine takeL 4 (v := ?_) rfl (by kernel_rfl) (by kernel_rfl) (by kernel_rfl) (fun _ _ _ h => h) (by kernel_rfl) ?_ (by assumption) ?_; rotate_left; (focus (intro w hSw; (try dsimp only at hSw); go_simp <;> with_reducible rfl)); (try simp only [Act.put, List.setIfInBounds_toArray, List.set_cons_zero, List.set_cons_succ])
          refine takeL 5 (v := ?_) rfl (by kernel_rfl) (by kernel_rfl) (by kernel_rfl) (fun _ _ _ h => h) (by kernel_rfl) ?_ (by assumption) ?_; rotate_left; (focus (intro w hSw; (try dsimp only at hSw); go_simp <;> with_reducible rfl)); (try simp only [Act.put, List.setIfInBounds_toArray, List.set_cons_zero, List.set_cons_succ])
          refine takeL 6 (v := ?_) rfl (by kernel_rfl) (by kernel_rfl) (by kernel_rfl) (fun _ _ _ h => h) (by kernel_rfl) ?_ (by assumption) ?_; rotate_left; (focus (intro w hSw; (try dsimp only at hSw); go_simp <;> with_reducible rfl)); (try simp only [Act.put, List.setIfInBounds_toArray, List.set_cons_zero, List.set_cons_succ])
          refine takeL 7 (v := ?_) rfl (by kernel_rfl) (by kernel_rfl) (by kernel_rfl) (fun _ _ _ h => h) (by kernel_rfl) ?_ (by assumption) ?_; rotate_left; (focus (intro w hSw; (try dsimp only at hSw); go_simp <;> with_reducible rfl)); (try simp only [Act.put, List.setIfInBounds_toArray, List.set_cons_zero, List.set_cons_succ])
          refine takeL 8 (v := ?_) rfl (by kernel_rfl) (by kernel_rfl) (by kernel_rfl) (fun _ _ _ h => h) (by kernel_rfl) ?_ (by assumption) ?_; rotate_left; (focus (intro w hSw; (try dsimp only at hSw); go_simp <;> with_reducible rfl)); (try simp only [Act.put, List.setIfInBounds_toArray, List.set_cons_zero, List.set_cons_succ])
          refine takeL 9 (v := ?_) rfl (by kernel_rfl) (by kernel_rfl) (by kernel_rfl) (fun _ _ _ h => h) (by kernel_rfl) ?_ (by assumption) ?_; rotate_left; (focus (intro w hSw; (try dsimp only at hSw); go_simp <;> with_reducible rfl)); (try simp only [Act.put, List.setIfInBounds_toArray, List.set_cons_zero, List.set_cons_succ])
          refine takeL 10 (v := ?_) rfl (by kernel_rfl) (by kernel_rfl) (by kernel_rfl) (fun _ _ _ h => h) (by kernel_rfl) ?_ (by assumption) ?_; rotate_left; (focus (intro w hSw; (try dsimp only at hSw); go_simp <;> with_reducible rfl)); (try simp only [Act.put, List.setIfInBounds_toArray, List.set_cons_zero, List.set_cons_succ])
          clear hHeld
          refine oneL 11 rfl (by kernel_rfl) (by kernel_rfl) (fun K hK => ?_); go_simp
          refine (HPut.out wd A6 n c6 Hn.out k1 k2 (Rd.at ((Rd.of_own HO6.out).more (Nat.zero_le _) (Nat.le_refl _)) Ed (Nat.le_refl _))).mono ?_
          rintro e w8 ⟨v8, rfl, hown8, e8⟩
          have H8 := Lib.hid (own_lower hown8 (Nat.le_trans e6.size Ed.size))
          have E8 : Ext wr w8 := Ed.trans e8
          clear hown8 e8
          go_wp2_with fail
          refine hK.out _ _ E8 (fun hHeld => ?_)
          clear hK K
          (try simp only [Act.put, List.setIfInBounds_toArray, List.set_cons_zero, List.set_cons_succ])
          refine takeL 12 (v := ?_) rfl (by kernel_rfl) (by kernel_rfl) (by kernel_rfl) (fun _ _ _ h => h) (by kernel_rfl) ?_ (by assumption) ?_; rotate_left; (focus (intro w hSw; (try dsimp only at hSw); go_simp <;> with_reducible rfl)); (try simp only [Act.put, List.setIfInBounds_toArray, List.set_cons_zero, List.set_cons_succ])
          refine takeL 13 (v := ?_) rfl (by kernel_rfl) (by kernel_rfl) (by kernel_rfl) (fun _ _ _ h => h) (by kernel_rfl) ?_ (by assumption) ?_; rotate_left; (focus (intro w hSw; (try dsimp only at hSw); go_simp <;> with_reducible rfl)); (try simp only [Act.put, List.setIfInBounds_toArray, List.set_cons_zero, List.set_cons_succ])
          refine takeL 14 (v := ?_) rfl (by kernel_rfl) (by kernel_rfl) (by kernel_rfl) (fun _ _ _ h => h) (by kernel_rfl) ?_ (by assumption) ?_; rotate_left; (focus (intro w hSw; (try dsimp only at hSw); go_simp <;> with_reducible rfl)); (try simp only [Act.put, List.setIfInBounds_toArray, List.set_cons_zero, List.set_cons_succ])
          refine takeL 15 (v := ?_) rfl (by kernel_rfl) (by kernel_rfl) (by kernel_rfl) (fun _ _ _ h => h) (by kernel_rfl) ?_ (by assumption) ?_; rotate_left; (focus (intro w hSw; (try dsimp only at hSw); go_simp <;> with_reducible rfl)); (try simp only [Act.put, List.setIfInBounds_toArray, List.set_cons_zero, List.set_cons_succ])
          refine wpAnyH_done (by kernel_rfl) ?_ _
          have g0 := (HBx.out _ (e6.trans E8)).1
          go_wp2_with fail
          go_roundw
          case rel => exact ⟨1, by omega, by go_num, fun h => absurd h (by decide), fun _ => H8.out, e6.trans E8⟩
          case measure => simp [intOf]
        · obtain rfl : k = 1 := by omega
          have hown6 := hq2 rfl
          clear hq1 hq2
          go_wp2_with fail
          exact HOut.out _ _ hown6 e6
set_option maxRecDepth 100000 in
set_option maxHeartbeats 8000000 in
theorem apply3_any (w : World) (A : Option Addr) (n c : Nat) (xs : List Blk) (hn : n = xs.length) (hN : n ≤ 100000000) (hr : Rd w 0 w.heap.size A (blks xs)) (hwf : ∀ x ∈ xs, x.wf) (hb0 : bkE xs = 0)
    (b : Nat) (r : Rec) (hB : Bx w b r.cells) (hro : Rd w 0 w.heap.size r.oA (prps r.own)) (hrx : r.wf) (hE : recE r = 0) (hk : r.kind = 3) :
    Calls Tryz.prog 39 #[.slice A n c, .slice (some ⟨b, 0, none⟩) 1 1] w (ApOut w (frd xs r.index r.count)) := by
  have HCk := Lib.hid (fun W (hW : Ext w W) => rbcheck_any W A n c xs hn (by omega) (Rd.at hr hW (Nat.le_refl _)) hwf)
  have HRe := Lib.hid (fun W (hW : Ext w W) => rcheck_any W r (Rd.at hro hW (Nat.le_refl _)) hrx)
  have HOw := Lib.hid (fun W (hW : Ext w W) => rown_any W A n c xs hn (Rd.at hr hW (Nat.le_refl _)) (by omega))
  have HPut := Lib.hid (fun W A' n' c' (h1 : n' = xs.length) (h2 : n' ≤ c') (h3 : c' ≤ maxLen) (hA : Rd W 0 W.heap.size A' (blks xs)) => rfree_any W A' n' c' xs h1 (by omega) hA hwf r.index r.count (by have := hrx.index; omega) (by have := hrx.count; omega))
  have HOut := Lib.hid (fun (v : Value) (w' : World) (h : w'.ownsRow w.heap.size 46 2 v (frd xs r.index r.count).length (blks (frd xs r.index r.count))) (e : Ext w w') => show ApOut w (frd xs r.index r.count) (.returned (.tuple #[v, .int .i64 0])) w' from ⟨v, 0, rfl, h, e⟩)
  have Hn := Lib.hid hn
  obtain ⟨OUT, hOUT⟩ : ∃ OUT : Ending → World → Prop, OUT = ApOut w (frd xs r.index r.count) := ⟨_, rfl⟩
  rw [← hOUT] at HOut ⊢
  clear hOUT hro hrx hn hr hwf
  rw [hb0] at HCk
  rw [hE] at HRe
  clear hb0 hE
  generalize frd xs r.index r.count = PD at *
  obtain ⟨kind, name, frm, guid, oA, on, oc, own, index, count, data, s0, s1, s2, s3⟩ := r
  dsimp only at hk HPut
  subst hk
  simp only [Rec.cells] at hB HRe
  have HBx := Lib.hid (bx12 hB)
  clear hB
  go_enter Tryz.func39, Tryz.ntmps39
  go_wp2_with fail
  refine (HCk.out w (Ext.refl w)).mono ?_
  rintro e w2 ⟨rfl, e2⟩
  go_wp2_with fail
  go_loopw [6, 7] (fun a v wr => ∃ k : Nat, k ≤ 1 ∧ a = .int .i64 k ∧ Ext w wr) (fun a _ _ => 1 - (intOf a).toNat)
  case atStart => exact ⟨0, by omega, rfl, e2⟩
  case round =>
    obtain ⟨k, hk, rfl, e1⟩ := hrel
    by_cases hlt : k < 1
    · obtain rfl : k = 0 := by omega
      obtain ⟨g0, g1, g2, g3, g4, g5, g6, g7, g8, g9, g10, g11⟩ := HBx.out _ e1
      go_wp2_with fail
      refine (HRe.out _ e1).mono ?_
      rintro e w4 ⟨rfl, e4⟩
      clear g0 g1 g2 g3 g4 g5 g6 g7 g8 g9 g10 g11
      go_wp2_with fail
      go_roundw
      case rel => exact ⟨1, by omega, by go_num, e1.trans e4⟩
      case measure => simp [intOf]
    · obtain rfl : k = 1 := by omega
      go_wp2_with fail
      refine (HOw.out _ e1).mono ?_
      rintro e w5 ⟨v5, rfl, hown5, e5⟩
      have HOwn := Lib.hid (own_lower hown5 e1.size)
      have E5 : Ext w w5 := e1.trans e5
      clear hown5 e5 e1 e2
      go_wp2_with fail
      go_loopw [8, 9] (fun v a wr => ∃ k : Nat, k ≤ 1 ∧ a = .int .i64 k ∧ (k = 0 → wr.ownsRow w.heap.size 46 2 v n (blks xs)) ∧ (k = 1 → wr.ownsRow w.heap.size 46 2 v PD.length (blks PD)) ∧ Ext w wr) (fun _ a _ => 1 - (intOf a).toNat)
      case atStart => exact ⟨0, by omega, rfl, fun _ => HOwn.out, fun h => absurd h (by decide), E5⟩
      case round =>
        obtain ⟨k, hk2, rfl, hq1, hq2, e6⟩ := hrel
        by_cases hlt2 : k < 1
        · obtain rfl : k = 0 := by omega
          have hown6 := hq1 rfl
          clear hq1 hq2
          obtain ⟨A6, c6, rfl, k1, k2, _⟩ := own_form hown6
          have HO6 := Lib.hid hown6
          clear hown6
          have HF := Lib.hid (fun W (e : Ext wr W) => HBx.out W (e6.trans e))
          obtain ⟨g0, g1, g2, g3, g4, g5, g6, g7, g8, g9, g10, g11⟩ := HBx.out _ e6
          go_upto_region 16 with fail
          clear g0 g1 g2 g3 g4 g5 g6 g7 g8 g9 g10 g11
          have g5 := fun W e => (HF.out W e).2.2.2.2.2.1
          have g6 := fun W e => (HF.out W e).2.2.2.2.2.2.1
          refine wp_region_held_drew (S := fun w' => Ext wr w') (by kernel_rfl) (by (repeat (first | exact Below.refl _ _ | exact Ext.refl _ | assumption | refine Below.drew ?_ | refine below_drewN ?_ _ | refine below_alloc ?_ (by first | exact Nat.le_refl _ | assumption | (simp; done) | omega | (simp; omega)) _ | refine below_ext ?_ (by assumption) (by first | exact Nat.le_refl _ | assumption | (simp; done) | omega | (simp; omega)) | refine Ext.drew ?_ | refine Ext.drewN ?_ _ | refine Ext.alloc ?_ _ | refine Ext.setCell ?_ (by first | assumption | (simp; done) | (simp; omega)) _ | refine Below.setCell ?_ (by first | assumption | (simp; done) | (simp; omega)) _ | refine Ext.trans ?_ (by assumption)))) (fun hHeld => ?_)
          have Ed : Ext wr (World.drew wr) := Ext.drew (Ext.refl wr)
          generalize hwd : World.drew wr = wd at *
          clear hwd
          refine takeL 0 (v := ?_) rfl (by kernel_rfl) (by kernel_rfl) (by kernel_rfl) (fun _ _ _ h => h) (by kernel_rfl) ?_ (by assumption) ?_; rotate_left; (focus (intro w hSw; (try dsimp only at hSw); go_simp <;> with_reducible rfl)); (try simp only [Act.put, List.setIfInBounds_toArray, List.set_cons_zero, List.set_cons_succ])
          refine takeL 1 (v := ?_) rfl (by kernel_rfl) (by kernel_rfl) (by kernel_rfl) (fun _ _ _ h => h) (by kernel_rfl) ?_ (by assumption) ?_; rotate_left; (focus (intro w hSw; (try dsimp only at hSw); go_simp <;> with_reducible rfl)); (try simp only [Act.put, List.setIfInBounds_toArray, List.set_cons_zero, List.set_cons_succ])
          refine takeL 2 (v := ?_) rfl (by kernel_rfl) (by kernel_rfl) (by kernel_rfl) (fun _ _ _ h => h) (by kernel_rfl) ?_ (by assumption) ?_; rotate_left; (focus (intro w hSw; (try dsimp only at hSw); go_simp <;> with_reducible rfl)); (try simp only [Act.put, List.setIfInBounds_toArray, List.set_cons_zero, List.set_cons_succ])
          refine takeL 3 (v := ?_) rfl (by kernel_rfl) (by kernel_rfl) (by kernel_rfl) (fun _ _ _ h => h) (by kernel_rfl) ?_ (by assumption) ?_; rotate_left; (focus (intro w hSw; (try dsimp only at hSw); go_simp <;> with_reducible rfl)); (try simp only [Act.put, List.setIfInBounds_toArray, List.set_cons_zero, List.set_cons_succ])
          refine takeL 4 (v := ?_) rfl (by kernel_rfl) (by kernel_rfl) (by kernel_rfl) (fun _ _ _ h => h) (by kernel_rfl) ?_ (by assumption) ?_; rotate_left; (focus (intro w hSw; (try dsimp only at hSw); go_simp <;> with_reducible rfl)); (try simp only [Act.put, List.setIfInBounds_toArray, List.set_cons_zero, List.set_cons_succ])
          refine takeL 5 (v := ?_) rfl (by kernel_rfl) (by kernel_rfl) (by kernel_rfl) (fun _ _ _ h => h) (by kernel_rfl) ?_ (by assumption) ?_; rotate_left; (focus (intro w hSw; (try dsimp only at hSw); go_simp <;> with_reducible rfl)); (try simp only [Act.put, List.setIfInBounds_toArray, List.set_cons_zero, List.set_cons_succ])
          refine takeL 6 (v := ?_) rfl (by kernel_rfl) (by kernel_rfl) (by kernel_rfl) (fun _ _ _ h => h) (by kernel_rfl) ?_ (by assumption) ?_; rotate_left; (focus (intro w hSw; (try dsimp only at hSw); go_simp <;> with_reducible rfl)); (try simp only [Act.put, List.setIfInBounds_toArray, List.set_cons_zero, List.set_cons_succ])
          refine takeL 7 (v := ?_) rfl (by kernel_rfl) (by kernel_rfl) (by kernel_rfl) (fun _ _ _ h => h) (by kernel_rfl) ?_ (by assumption) ?_; rotate_left; (focus (intro w hSw; (try dsimp only at hSw); go_simp <;> with_reducible rfl)); (try simp only [Act.put, List.setIfInBounds_toArray, List.set_cons_zero, List.set_cons_succ])
          refine takeL 8 (v := ?_) rfl (by kernel_rfl) (by kernel_rfl) (by kernel_rfl) (fun _ _ _ h => h) (by kernel_rfl) ?_ (by assumption) ?_; rotate_left; (focus (intro w hSw; (try dsimp only at hSw); go_simp <;> with_reducible rfl)); (try simp only [Act.put, List.setIfInBounds_toArray, List.set_cons_zero, List.set_cons_succ])
          refine takeL 9 (v := ?_) rfl (by kernel_rfl) (by kernel_rfl) (by kernel_rfl) (fun _ _ _ h => h) (by kernel_rfl) ?_ (by assumption) ?_; rotate_left; (focus (intro w hSw; (try dsimp only at hSw); go_simp <;> with_reducible rfl)); (try simp only [Act.put, List.setIfInBounds_toArray, List.set_cons_zero, List.set_cons_succ])
          refine takeL 10 (v := ?_) rfl (by kernel_rfl) (by kernel_rfl) (by kernel_rfl) (fun _ _ _ h => h) (by kernel_rfl) ?_ (by assumption) ?_; rotate_left; (focus (intro w hSw; (try dsimp only at hSw); go_simp <;> with_reducible rfl)); (try simp only [Act.put, List.setIfInBounds_toArray, List.set_cons_zero, List.set_cons_succ])
          clear hHeld
          refine oneL 11 rfl (by kernel_rfl) (by kernel_rfl) (fun K hK => ?_); go_simp
          refine (HPut.out wd A6 n c6 Hn.out k1 k2 (Rd.at ((Rd.of_own HO6.out).more (Nat.zero_le _) (Nat.le_refl _)) Ed (Nat.le_refl _))).mono ?_
          rintro e w8 ⟨v8, rfl, hown8, e8⟩
          have H8 := Lib.hid (own_lower hown8 (Nat.le_trans e6.size Ed.size))
          have E8 : Ext wr w8 := Ed.trans e8
          clear hown8 e8
          go_wp2_with fail
          refine hK.out _ _ E8 (fun hHeld => ?_)
          clear hK K
          (try simp only [Act.put, List.setIfInBounds_toArray, List.set_cons_zero, List.set_cons_succ])
          refine takeL 12 (v := ?_) rfl (by kernel_rfl) (by kernel_rfl) (by kernel_rfl) (fun _ _ _ h => h) (by kernel_rfl) ?_ (by assumption) ?_; rotate_left; (focus (intro w hSw; (try dsimp only at hSw); go_simp <;> with_reducible rfl)); (try simp only [Act.put, List.setIfInBounds_toArray, List.set_cons_zero, List.set_cons_succ])
          refine takeL 13 (v := ?_) rfl (by kernel_rfl) (by kernel_rfl) (by kernel_rfl) (fun _ _ _ h => h) (by kernel_rfl) ?_ (by assumption) ?_; rotate_left; (focus (intro w hSw; (try dsimp only at hSw); go_simp <;> with_reducible rfl)); (try simp only [Act.put, List.setIfInBounds_toArray, List.set_cons_zero, List.set_cons_succ])
          refine takeL 14 (v := ?_) rfl (by kernel_rfl) (by kernel_rfl) (by kernel_rfl) (fun _ _ _ h => h) (by kernel_rfl) ?_ (by assumption) ?_; rotate_left; (focus (intro w hSw; (try dsimp only at hSw); go_simp <;> with_reducible rfl)); (try simp only [Act.put, List.setIfInBounds_toArray, List.set_cons_zero, List.set_cons_succ])
          refine takeL 15 (v := ?_) rfl (by kernel_rfl) (by kernel_rfl) (by kernel_rfl) (fun _ _ _ h => h) (by kernel_rfl) ?_ (by assumption) ?_; rotate_left; (focus (intro w hSw; (try dsimp only at hSw); go_simp <;> with_reducible rfl)); (try simp only [Act.put, List.setIfInBounds_toArray, List.set_cons_zero, List.set_cons_succ])
          refine wpAnyH_done (by kernel_rfl) ?_ _
          have g0 := (HBx.out _ (e6.trans E8)).1
          go_wp2_with fail
          go_roundw
          case rel => exact ⟨1, by omega, by go_num, fun h => absurd h (by decide), fun _ => H8.out, e6.trans E8⟩
          case measure => simp [intOf]
        · obtain rfl : k = 1 := by omega
          have hown6 := hq2 rfl
          clear hq1 hq2
          go_wp2_with fail
          exact HOut.out _ _ hown6 e6
end Go.Proofs.YtmecjjmlccdppaaGreatDoor
/- The reference's Text of properties: the walk. -/
namespace Go.Proofs.YtmecjjmlccdppaaGreatDoor
open Go.RowKit
set_option linter.unusedVariables false
set_option linter.unusedSimpArgs false

set_option maxRecDepth 100000 in
set_option maxHeartbeats 2000000 in
theorem rtext_any (w : World) (A : Option Addr) (n c : Nat) (xs : List Prp) (hn : n = xs.length) (hN : n ≤ 100000000000) (hr : Rd w 0 w.heap.size A (prps xs)) :
    Calls Tryz.prog 64 #[.slice A n c] w fun e w' => ∃ v, e = .returned v ∧ w'.ownsRow w.heap.size 9 1 v (n * 2) ((ptext xs).map Value.string) ∧ Ext w w' := by
  obtain ⟨i0, hi0, hz0, hz1, hz2⟩ := info_parts infoT
  have Hn := Lib.hid hn
  have HR := Lib.hid hr
  clear hn hr
  go_enter Tryz.func64, Tryz.ntmps64
  go_wp2_with fail
  go_loopw [3, 4] (fun v a wr => ∃ k : Nat, k ≤ n ∧ a = .int .i64 k ∧ wr.ownsRow w.heap.size 9 1 v (k * 2) ((ptext (xs.take k)).map Value.string) ∧ Ext w wr) (fun _ a _ => n - (intOf a).toNat)
  case atStart => exact ⟨0, Nat.zero_le _, rfl, World.ownsRow_nil _ _ _ _, Ext.refl _⟩
  case round =>
    obtain ⟨k, hk, rfl, hown, e1⟩ := hrel
    have HOwn := Lib.hid hown
    clear hown
    by_cases hlt : k < n
    · have l1 : k < xs.length := by rw [← Hn.out]; exact hlt
      obtain ⟨b1, o1, rfl, _, hb1, f0, f1⟩ := rd_prp (HR.out.ext e1 (Nat.le_refl _)) l1
      have HT := Lib.hid (ptext_snoc xs k l1)
      have HO := Lib.hid (show (k * 2 + 2) * 16 ≤ 140737488355328 by omega)
      generalize xs[k] = x at *
      obtain ⟨xn, xv⟩ := x
      dsimp only at f0 f1
      have g0 : ∀ w', Ext wr w' → w'.cell? ⟨b1, o1 + k * 2, none⟩ = some (.string xn) := fun w' e => by rw [Below.cell e (Nat.lt_of_lt_of_le hb1 e1.size)]; exact f0
      have g1 : ∀ w', Ext wr w' → w'.cell? ⟨b1, o1 + k * 2 + 1, none⟩ = some (.string xv) := fun w' e => by rw [Below.cell e (Nat.lt_of_lt_of_le hb1 e1.size)]; exact f1
      clear f0 f1
      have hwk : IntKind.i64.wrap (k : Int) = k := IntWalk.i64_in _ (by omega)
      have E3 : Ext w (wr.drew.alloc (.cells #[.string xn, .string xv] 9)) := e1.drew.alloc _
      have HOw3 := Lib.hid (own_ext HOwn.out (((Ext.refl wr).drew).alloc (.cells #[.string xn, .string xv] 9)))
      go_upto_region 5 with fail
      refine rgnM (fun k => k != 13) (S := fun w' => Ext wr w') (by kernel_rfl) ?_ (fun hHeld => ?_)
      · exact (Ext.refl wr).drew
      refine takeM 0 (v := ?_) rfl (by kernel_rfl) (by kernel_rfl) (by kernel_rfl) (by kernel_rfl) (fun _ _ _ h => h) (by kernel_rfl) ?_ (by assumption) ?_; rotate_left; (focus (intro w hSw; (try dsimp only at hSw); (try go_split_ands); go_simp <;> with_reducible rfl)); (try simp only [Act.put, List.setIfInBounds_toArray, List.set_cons_zero, List.set_cons_succ])
      refine takeM 1 (v := ?_) rfl (by kernel_rfl) (by kernel_rfl) (by kernel_rfl) (by kernel_rfl) (fun _ _ _ h => h) (by kernel_rfl) ?_ (by assumption) ?_; rotate_left; (focus (intro w hSw; (try dsimp only at hSw); (try go_split_ands); go_simp <;> with_reducible rfl)); (try simp only [Act.put, List.setIfInBounds_toArray, List.set_cons_zero, List.set_cons_succ])
      refine takeM 2 (v := ?_) rfl (by kernel_rfl) (by kernel_rfl) (by kernel_rfl) (by kernel_rfl) (fun _ _ _ h => h) (by kernel_rfl) ?_ (by assumption) ?_; rotate_left; (focus (intro w hSw; (try dsimp only at hSw); (try go_split_ands); go_simp <;> with_reducible rfl)); (try simp only [Act.put, List.setIfInBounds_toArray, List.set_cons_zero, List.set_cons_succ])
      refine takeM 3 (v := ?_) rfl (by kernel_rfl) (by kernel_rfl) (by kernel_rfl) (by kernel_rfl) (fun _ _ _ h => h) (by kernel_rfl) ?_ (by assumption) ?_; rotate_left; (focus (intro w hSw; (try dsimp only at hSw); (try go_split_ands); go_simp <;> with_reducible rfl)); (try simp only [Act.put, List.setIfInBounds_toArray, List.set_cons_zero, List.set_cons_succ])
      refine takeM 4 (v := ?_) rfl (by kernel_rfl) (by kernel_rfl) (by kernel_rfl) (by kernel_rfl) (fun _ _ _ h => h) (by kernel_rfl) ?_ (by assumption) ?_; rotate_left; (focus (intro w hSw; (try dsimp only at hSw); (try go_split_ands); go_simp <;> with_reducible rfl)); (try simp only [Act.put, List.setIfInBounds_toArray, List.set_cons_zero, List.set_cons_succ])
      refine takeM 5 (v := ?_) rfl (by kernel_rfl) (by kernel_rfl) (by kernel_rfl) (by kernel_rfl) (fun _ _ _ h => h) (by kernel_rfl) ?_ (by assumption) ?_; rotate_left; (focus (intro w hSw; (try dsimp only at hSw); (try go_split_ands); go_simp <;> with_reducible rfl)); (try simp only [Act.put, List.setIfInBounds_toArray, List.set_cons_zero, List.set_cons_succ])
      refine takeM 6 (v := ?_) rfl (by kernel_rfl) (by kernel_rfl) (by kernel_rfl) (by kernel_rfl) (fun _ _ _ h => h) (by kernel_rfl) ?_ (by assumption) ?_; rotate_left; (focus (intro w hSw; (try dsimp only at hSw); (try go_split_ands); go_simp <;> with_reducible rfl)); (try simp only [Act.put, List.setIfInBounds_toArray, List.set_cons_zero, List.set_cons_succ])
      refine takeM 7 (v := ?_) rfl (by kernel_rfl) (by kernel_rfl) (by kernel_rfl) (by kernel_rfl) (fun _ _ _ h => h) (by kernel_rfl) ?_ (by assumption) ?_; rotate_left; (focus (intro w hSw; (try dsimp only at hSw); (try go_split_ands); go_simp <;> with_reducible rfl)); (try simp only [Act.put, List.setIfInBounds_toArray, List.set_cons_zero, List.set_cons_succ])
      refine takeM 8 (v := ?_) rfl (by kernel_rfl) (by kernel_rfl) (by kernel_rfl) (by kernel_rfl) (fun _ _ _ h => h) (by kernel_rfl) ?_ (by assumption) ?_; rotate_left; (focus (intro w hSw; (try dsimp only at hSw); (try go_split_ands); go_simp <;> with_reducible rfl)); (try simp only [Act.put, List.setIfInBounds_toArray, List.set_cons_zero, List.set_cons_succ])
      refine takeM 9 (v := ?_) rfl (by kernel_rfl) (by kernel_rfl) (by kernel_rfl) (by kernel_rfl) (fun _ _ _ h => h) (by kernel_rfl) ?_ (by assumption) ?_; rotate_left; (focus (intro w hSw; (try dsimp only at hSw); (try go_split_ands); go_simp <;> with_reducible rfl)); (try simp only [Act.put, List.setIfInBounds_toArray, List.set_cons_zero, List.set_cons_succ])
      refine takeM 10 (v := ?_) rfl (by kernel_rfl) (by kernel_rfl) (by kernel_rfl) (by kernel_rfl) (fun _ _ _ h => h) (by kernel_rfl) ?_ (by assumption) ?_; rotate_left; (focus (intro w hSw; (try dsimp only at hSw); (try go_split_ands); go_simp <;> with_reducible rfl)); (try simp only [Act.put, List.setIfInBounds_toArray, List.set_cons_zero, List.set_cons_succ])
      refine oneM 11 rfl (by kernel_rfl) (by kernel_rfl) (fun K hK => ?_); (try go_simp)
      refine hK.out _ _ (by first | exact ((Ext.refl wr).drew.alloc _) | exact fun _ => ((Ext.refl wr).drew.alloc _)) (fun hHeld => ?_)
      clear hK K
      (try simp only [Act.put, List.setIfInBounds_toArray, List.set_cons_zero, List.set_cons_succ])
      refine freeM 12 rfl (by kernel_rfl) (by kernel_rfl) (by kernel_rfl) (fun K hK => ?_)
      refine wp_append_any _ (.tmp 11) (.tmp 22) _ rfl w.heap.size 9 i0 _ 1 16 Tryz.underlying48 hi0 hz0 hz1 hz2 rfl (by omega) _ (k * 2) _ rfl HOw3.out 0 _ _ 2 2 [.string xn, .string xv] rfl rfl
        ((rd_new _ _ _).more (Nat.zero_le _) (Nat.le_refl _)) (by simp [Value.oneCell']) (by have := HO.out; simp only [maxLen]; omega) HO.out E3.size ?_
      intro v7 w7 hown7 hg7 _
      have e9 : Ext w w7 := ext_grown E3 HOw3.out hg7 (Nat.le_refl _)
      clear hg7
      have HOwn7 := Lib.hid hown7
      clear hown7
      refine hK.out _ _ ?_
      clear hK K
      (try simp only [Act.put, List.setIfInBounds_toArray, List.set_cons_zero, List.set_cons_succ])
      refine freeM 13 rfl (by kernel_rfl) (by kernel_rfl) (by kernel_rfl) (fun K hK => ?_); (try go_simp)
      refine hK.out _ _ ?_
      clear hK K
      (try simp only [Act.put, List.setIfInBounds_toArray, List.set_cons_zero, List.set_cons_succ])
      refine doneM (by kernel_rfl) ?_
      go_wp2_with fail
      go_roundw
      case rel =>
        refine ⟨k + 1, by omega, by go_num, ?_, e9⟩
        rw [HT.out, List.map_append, show (k + 1) * 2 = k * 2 + 2 by omega]
        exact HOwn7.out
      case measure => simp [intOf]; omega
    · obtain rfl : k = n := by omega
      have ht : xs.take k = xs := List.take_of_length_le (by rw [← Hn.out]; exact Nat.le_refl _)
      have h8 := HOwn.out
      rw [ht] at h8
      have HOwn8 := Lib.hid h8
      clear h8
      clear ht
      go_wp2_with fail
      go_ret
      exact ⟨_, rfl, HOwn8.out, e1⟩
end Go.Proofs.YtmecjjmlccdppaaGreatDoor
/- The walks of the reference's Put and Num. -/
namespace Go.Proofs.YtmecjjmlccdppaaGreatDoor
open Go.RowKit
set_option linter.unusedVariables false

theorem puts_take (x : Int) (m k : Nat) (hk : k < m) : (puts x m).take (k + 1) = (puts x m).take k ++ [bt x (m - 1 - k)] := by
  rw [List.take_succ_eq_append_getElem (by rw [puts_length]; exact hk)]
  simp [puts]

set_option maxRecDepth 100000 in
set_option maxHeartbeats 400000 in
theorem rput_any (x size : Int) (m : Nat) (hm : m ≤ 8) (hs : size = (m : Int)) (w : World) (hx1 : -9223372036854775808 ≤ x) (hx2 : x ≤ 9223372036854775807) :
    Calls Tryz.prog 67 #[.int .i64 x, .int .i64 size] w fun e w' => ∃ v, e = .returned v ∧ w'.ownsRow w.heap.size 5 1 v m (bytes (puts x m)) ∧ Ext w w' := by
  subst hs
  obtain ⟨i0, hi0, hz0, hz1, hz2⟩ := info_parts info5
  go_enter Tryz.func67, Tryz.ntmps67
  go_wp2_with fail
  go_loopw [5, 6] (fun v i wr => ∃ k : Nat, k ≤ m ∧ i = .int .i64 ((m : Int) - 1 - k) ∧ wr.ownsRow w.heap.size 5 1 v k (bytes ((puts x m).take k)) ∧ Ext w wr) (fun _ i _ => (intOf i + 1).toNat)
  case atStart => exact ⟨0, Nat.zero_le _, by first | (simp; done) | (simp; omega), World.ownsRow_nil _ _ _ _, Ext.refl _⟩
  case round =>
    obtain ⟨k, hk, rfl, hown, e1⟩ := hrel
    by_cases hlt : k < m
    · have htx := Lib.hid (puts_take x m k hlt)
      obtain ⟨j, hj⟩ : ∃ j : Nat, m - 1 - k = j := ⟨_, rfl⟩
      have hji : (m : Int) - 1 - k = j := by omega
      have hj8 : j < 8 := by omega
      rw [hj] at htx
      rw [hji]
      go_wp2_with
        (at_builtin
         refine list_app _ rfl (.tmp 14) (.tmp 20) _ rfl 5 i0 _ 1 1 Tryz.underlying57 hi0 hz0 hz1 hz2 rfl (by omega) w.heap.size _ k _ rfl (hown.alloc _) 0 _ _ 1 1 [.int .u8 (x / 2 ^ (8 * j) % 256)] rfl rfl
           ((rd_new _ _ _).more (Nat.zero_le _) (Nat.le_refl _)) (by simp [Value.oneCell']) (by simp only [maxLen]; omega) (by omega) (by have := e1.size; simp; omega) ?_
         intro v2 w2 hown2 he2 _ _
         have e3 : Ext w w2 := he2 _ (e1.alloc _) (Nat.le_refl _)
         clear he2)
      go_roundw
      case rel =>
        refine ⟨k + 1, by omega, by go_num, ?_, e3⟩
        rw [htx.out, bytes_append]
        have hb : bytes [bt x j] = [.int .u8 (x / 2 ^ (8 * j) % 256)] := by
          have h1 : (256 : Int) ^ j = 2 ^ (8 * j) := by rw [Int.pow_mul]; rfl
          have h2 := bt_zero (x / 256 ^ j)
          have h3 : bt x j = bt (x / 256 ^ j) 0 := by simp [bt]
          rw [h3, bytes, List.map_cons, List.map_nil, h2, h1]
        rw [hb]
        exact hown2
      case measure => (first | (simp [intOf]; done) | (simp [intOf]; omega))
    · go_wp2_with fail
      obtain rfl : k = m := by omega
      go_ret
      exact ⟨_, rfl, by rwa [List.take_of_length_le (by rw [puts_length]; exact Nat.le_refl _)] at hown, e1⟩

theorem rnum_any (x : Int) (w : World) (hx1 : -9223372036854775808 ≤ x) (hx2 : x ≤ 9223372036854775807) :
    Calls Tryz.prog 63 #[.int .i64 x] w fun e w' => e = .returned (.string (num8 x)) ∧ Ext w w' := by
  go_enter Tryz.func63, Tryz.ntmps63
  go_wp2_with fail
  refine (rput_any x _ 8 (by omega) rfl w hx1 hx2).mono ?_
  rintro e w2 ⟨v, rfl, hown, e2⟩
  obtain ⟨A2, c2, rfl, _, _, _⟩ := own_form hown
  have hcv := run_conv_str (P := Tryz.prog) w2 57 9 5 Tryz.underlying57 Tryz.underlying5 Tryz.underlying9 _ _ A2 8 c2 (puts x 8) (puts_length _ _).symm (Rd.of_own hown)
  go_wp2_with fail
  go_ret
  exact ⟨rfl, e2⟩
end Go.Proofs.YtmecjjmlccdppaaGreatDoor
