/- The texts Rprp, Rchb in one file. -/
import Derived.Test.YtckaneapjpiocaaGreatDoorM7
import Derived.Test.YtckaneapjpiocaaGreatDoorM9
import Derived.Deep.DeepCutAuto
/- The walk of the reference's Props. -/
namespace Go.Proofs.YtckaneapjpiocaaGreatDoor
open Go.RowKit

set_option linter.unusedSimpArgs false in
set_option maxHeartbeats 4000000 in
theorem rprops_any (w : World) (A : Option Addr) (n c : Nat) (xs : List Prp) (hn : n = xs.length) (hm : n ≤ 9223372036854775807) (hr : Rd w 0 w.heap.size A (prps xs)) (hwf : ∀ x ∈ xs, x.name.size ≤ 9223372036854775807 ∧ x.value.size ≤ 9223372036854775807) :
    Calls Tryz.prog 56 #[.slice A n c] w fun e w' => e = .returned (.int .i64 (prE xs)) ∧ Ext w w' := by
  have Hn := Lib.hid hn
  have HW := Lib.hid hwf
  clear hn hwf
  go_enter Tryz.func56, Tryz.ntmps56
  go_wp2_with fail
  go_loopw [3] (fun i wr => ∃ k : Nat, k ≤ n ∧ i = .int .i64 k ∧ Hid (badUpto xs k = false) ∧ Ext w wr) (fun i _ => n - (intOf i).toNat)
  case atStart => exact ⟨0, Nat.zero_le _, rfl, by rw [Hid]; rfl, Ext.refl _⟩
  case round =>
    obtain ⟨k, hk, rfl, HK, e1⟩ := hrel
    by_cases hlt : k < n
    · have hl : k < xs.length := by rw [← Hn.out]; omega
      have hmem := HW.out xs[k] (List.getElem_mem _)
      obtain ⟨b1, o1, rfl, _, hb1, f0, f1⟩ := rd_prp hr hl
      have hba : Hid (badAt xs k = (!nameB xs[k].name || !valB xs[k].value || (decide (0 < k) && !lessB (nm xs (k - 1)) xs[k].name))) := by rw [Hid, badAt, nm_at xs k hl, vl_at xs k hl]
      have hbs := Lib.hid (badUpto_succ xs k)
      have hba2 := Lib.hid (badUpto_at xs k xs.length hl)
      generalize xs[k] = y at *
      have g0 : ∀ w', Ext wr w' → w'.cell? ⟨b1, o1 + k * 2, none⟩ = some (.string y.name) := fun w' h => by rw [Below.cell (e1.trans h) hb1]; exact f0
      have g1 : ∀ w', Ext wr w' → w'.cell? ⟨b1, o1 + k * 2 + 1, none⟩ = some (.string y.value) := fun w' h => by rw [Below.cell (e1.trans h) hb1]; exact f1
      clear f0 f1
      have hv : Hid (badAt xs k = true → prE xs = 9) := Lib.hid fun h => by
        rw [prE, if_pos (hba2.out h)]
        split <;> rfl
      have p0 : (0 : Int) ≤ (k : Int) := by omega
      have p1 : (k : Int) < (n : Int) := by omega
      go_wp2_with fail
      refine wp_region_held_drew (S := fun w' => Ext wr w') (by kernel_rfl) (by (repeat (first | exact Below.refl _ _ | exact Ext.refl _ | assumption | refine Below.drew ?_ | refine below_drewN ?_ _ | refine below_alloc ?_ (by first | exact Nat.le_refl _ | assumption | (simp; done) | omega | (simp; omega)) _ | refine below_ext ?_ (by assumption) (by first | exact Nat.le_refl _ | assumption | (simp; done) | omega | (simp; omega)) | refine Ext.drew ?_ | refine Ext.drewN ?_ _ | refine Ext.alloc ?_ _ | refine Ext.setCell ?_ (by first | assumption | (simp; done) | (simp; omega)) _ | refine Below.setCell ?_ (by first | assumption | (simp; done) | (simp; omega)) _ | refine Ext.trans ?_ (by assumption)))) (fun hHeld => ?_)
      refine tU 0 rfl (by kernel_rfl) (fun _ _ _ h => h) (by intro w hSw; (try dsimp only at hSw); go_simp <;> with_reducible rfl) (by assumption) ?_; (try simp only [Act.put, lyA, lyB, lyC])
      refine tU 1 rfl (by kernel_rfl) (fun _ _ _ h => h) (by intro w hSw; (try dsimp only at hSw); go_simp <;> with_reducible rfl) (by assumption) ?_; (try simp only [Act.put, lyA, lyB, lyC])
      refine tU 2 rfl (by kernel_rfl) (fun _ _ _ h => h) (by intro w hSw; (try dsimp only at hSw); go_simp <;> with_reducible rfl) (by assumption) ?_; (try simp only [Act.put, lyA, lyB, lyC])
      refine tU 3 rfl (by kernel_rfl) (fun _ _ _ h => h) (by intro w hSw; (try dsimp only at hSw); go_simp <;> with_reducible rfl) (by assumption) ?_; (try simp only [Act.put, lyA, lyB, lyC])
      refine tU 4 rfl (by kernel_rfl) (fun _ _ _ h => h) (by intro w hSw; (try dsimp only at hSw); go_simp <;> with_reducible rfl) (by assumption) ?_; (try simp only [Act.put, lyA, lyB, lyC])
      refine oneL 5 rfl (by kernel_rfl) (by kernel_rfl) (fun K hK => ?_); go_simp
      refine (rname_any y.name _ hmem.1).mono ?_
      rintro e wa ⟨rfl, ea⟩
      go_wp2_with fail; refine hK.out _ _ (by (repeat (first | exact Below.refl _ _ | exact Ext.refl _ | assumption | refine Below.drew ?_ | refine below_drewN ?_ _ | refine below_alloc ?_ (by first | exact Nat.le_refl _ | assumption | (simp; done) | omega | (simp; omega)) _ | refine below_ext ?_ (by assumption) (by first | exact Nat.le_refl _ | assumption | (simp; done) | omega | (simp; omega)) | refine Ext.drew ?_ | refine Ext.drewN ?_ _ | refine Ext.alloc ?_ _ | refine Ext.setCell ?_ (by first | assumption | (simp; done) | (simp; omega)) _ | refine Below.setCell ?_ (by first | assumption | (simp; done) | (simp; omega)) _ | refine Ext.trans ?_ (by assumption)))) (fun hHeld => ?_); clear hK K; (try simp only [Act.put, lyA, lyB, lyC])
      cases ho : nameB y.name
      · have hv := Lib.hid (hv.out (by rw [hba.out, ho]; rfl))
        refine tU 6 rfl (by kernel_rfl) (fun _ _ _ h => h) (by intro w hSw; (try dsimp only at hSw); go_simp <;> with_reducible rfl) (by assumption) ?_; (try simp only [Act.put, lyA, lyB, lyC])
        refine tU 7 rfl (by kernel_rfl) (fun _ _ _ h => h) (by intro w hSw; (try dsimp only at hSw); go_simp <;> with_reducible rfl) (by assumption) ?_; (try simp only [Act.put, lyA, lyB, lyC])
        refine sU 8 rfl (by kernel_rfl) (fun _ _ _ h => h) (by assumption) ?_; (try simp only [Act.put, lyA, lyB, lyC])
        refine sU 9 rfl (by kernel_rfl) (fun _ _ _ h => h) (by assumption) ?_; (try simp only [Act.put, lyA, lyB, lyC])
        refine sU 10 rfl (by kernel_rfl) (fun _ _ _ h => h) (by assumption) ?_; (try simp only [Act.put, lyA, lyB, lyC])
        refine sU 11 rfl (by kernel_rfl) (fun _ _ _ h => h) (by assumption) ?_; (try simp only [Act.put, lyA, lyB, lyC])
        refine sU 12 rfl (by kernel_rfl) (fun _ _ _ h => h) (by assumption) ?_; (try simp only [Act.put, lyA, lyB, lyC])
        refine sU 13 rfl (by kernel_rfl) (fun _ _ _ h => h) (by assumption) ?_; (try simp only [Act.put, lyA, lyB, lyC])
        refine sU 14 rfl (by kernel_rfl) (fun _ _ _ h => h) (by assumption) ?_; (try simp only [Act.put, lyA, lyB, lyC])
        refine tU 15 rfl (by kernel_rfl) (fun _ _ _ h => h) (by intro w hSw; (try dsimp only at hSw); go_simp <;> with_reducible rfl) (by assumption) ?_; (try simp only [Act.put, lyA, lyB, lyC])
        refine tU 16 rfl (by kernel_rfl) (fun _ _ _ h => h) (by intro w hSw; (try dsimp only at hSw); go_simp <;> with_reducible rfl) (by assumption) ?_; (try simp only [Act.put, lyA, lyB, lyC])
        refine sU 17 rfl (by kernel_rfl) (fun _ _ _ h => h) (by assumption) ?_; (try simp only [Act.put, lyA, lyB, lyC])
        refine sU 18 rfl (by kernel_rfl) (fun _ _ _ h => h) (by assumption) ?_; (try simp only [Act.put, lyA, lyB, lyC])
        refine sU 19 rfl (by kernel_rfl) (fun _ _ _ h => h) (by assumption) ?_; (try simp only [Act.put, lyA, lyB, lyC])
        refine sU 20 rfl (by kernel_rfl) (fun _ _ _ h => h) (by assumption) ?_; (try simp only [Act.put, lyA, lyB, lyC])
        refine sU 21 rfl (by kernel_rfl) (fun _ _ _ h => h) (by assumption) ?_; (try simp only [Act.put, lyA, lyB, lyC])
        refine sU 22 rfl (by kernel_rfl) (fun _ _ _ h => h) (by assumption) ?_; (try simp only [Act.put, lyA, lyB, lyC])
        refine sU 23 rfl (by kernel_rfl) (fun _ _ _ h => h) (by assumption) ?_; (try simp only [Act.put, lyA, lyB, lyC])
        refine sU 24 rfl (by kernel_rfl) (fun _ _ _ h => h) (by assumption) ?_; (try simp only [Act.put, lyA, lyB, lyC])
        refine sU 25 rfl (by kernel_rfl) (fun _ _ _ h => h) (by assumption) ?_; (try simp only [Act.put, lyA, lyB, lyC])
        refine sU 26 rfl (by kernel_rfl) (fun _ _ _ h => h) (by assumption) ?_; (try simp only [Act.put, lyA, lyB, lyC])
        refine sU 27 rfl (by kernel_rfl) (fun _ _ _ h => h) (by assumption) ?_; (try simp only [Act.put, lyA, lyB, lyC])
        refine sU 28 rfl (by kernel_rfl) (fun _ _ _ h => h) (by assumption) ?_; (try simp only [Act.put, lyA, lyB, lyC])
        refine sU 29 rfl (by kernel_rfl) (fun _ _ _ h => h) (by assumption) ?_; (try simp only [Act.put, lyA, lyB, lyC])
        refine sU 30 rfl (by kernel_rfl) (fun _ _ _ h => h) (by assumption) ?_; (try simp only [Act.put, lyA, lyB, lyC])
        refine sU 31 rfl (by kernel_rfl) (fun _ _ _ h => h) (by assumption) ?_; (try simp only [Act.put, lyA, lyB, lyC])
        refine sU 32 rfl (by kernel_rfl) (fun _ _ _ h => h) (by assumption) ?_; (try simp only [Act.put, lyA, lyB, lyC])
        refine tU 33 rfl (by kernel_rfl) (fun _ _ _ h => h) (by intro w hSw; (try dsimp only at hSw); go_simp <;> with_reducible rfl) (by assumption) ?_; (try simp only [Act.put, lyA, lyB, lyC])
        refine wpAnyH_done (by kernel_rfl) ?_ _
        go_wp2_with fail
        go_ret
        exact ⟨by rw [hv.out]; rfl, by (repeat (first | exact Below.refl _ _ | exact Ext.refl _ | assumption | refine Below.drew ?_ | refine below_drewN ?_ _ | refine below_alloc ?_ (by first | exact Nat.le_refl _ | assumption | (simp; done) | omega | (simp; omega)) _ | refine below_ext ?_ (by assumption) (by first | exact Nat.le_refl _ | assumption | (simp; done) | omega | (simp; omega)) | refine Ext.drew ?_ | refine Ext.drewN ?_ _ | refine Ext.alloc ?_ _ | refine Ext.setCell ?_ (by first | assumption | (simp; done) | (simp; omega)) _ | refine Below.setCell ?_ (by first | assumption | (simp; done) | (simp; omega)) _ | refine Ext.trans ?_ (by assumption)))⟩
      · refine tU 6 rfl (by kernel_rfl) (fun _ _ _ h => h) (by intro w hSw; (try dsimp only at hSw); go_simp <;> with_reducible rfl) (by assumption) ?_; (try simp only [Act.put, lyA, lyB, lyC])
        refine tU 7 rfl (by kernel_rfl) (fun _ _ _ h => h) (by intro w hSw; (try dsimp only at hSw); go_simp <;> with_reducible rfl) (by assumption) ?_; (try simp only [Act.put, lyA, lyB, lyC])
        refine tU 8 rfl (by kernel_rfl) (fun _ _ _ h => h) (by intro w hSw; (try dsimp only at hSw); go_simp <;> with_reducible rfl) (by assumption) ?_; (try simp only [Act.put, lyA, lyB, lyC])
        refine tU 9 rfl (by kernel_rfl) (fun _ _ _ h => h) (by intro w hSw; (try dsimp only at hSw); go_simp <;> with_reducible rfl) (by assumption) ?_; (try simp only [Act.put, lyA, lyB, lyC])
        refine tU 10 rfl (by kernel_rfl) (fun _ _ _ h => h) (by intro w hSw; (try dsimp only at hSw); go_simp <;> with_reducible rfl) (by assumption) ?_; (try simp only [Act.put, lyA, lyB, lyC])
        refine tU 11 rfl (by kernel_rfl) (fun _ _ _ h => h) (by intro w hSw; (try dsimp only at hSw); go_simp <;> with_reducible rfl) (by assumption) ?_; (try simp only [Act.put, lyA, lyB, lyC])
        refine tU 12 rfl (by kernel_rfl) (fun _ _ _ h => h) (by intro w hSw; (try dsimp only at hSw); go_simp <;> with_reducible rfl) (by assumption) ?_; (try simp only [Act.put, lyA, lyB, lyC])
        refine oneL 13 rfl (by kernel_rfl) (by kernel_rfl) (fun K hK => ?_); go_simp
        refine (rvalue_any y.value _ hmem.2).mono ?_
        rintro e wb ⟨rfl, eb⟩
        go_wp2_with fail; refine hK.out _ _ (by (repeat (first | exact Below.refl _ _ | exact Ext.refl _ | assumption | refine Below.drew ?_ | refine below_drewN ?_ _ | refine below_alloc ?_ (by first | exact Nat.le_refl _ | assumption | (simp; done) | omega | (simp; omega)) _ | refine below_ext ?_ (by assumption) (by first | exact Nat.le_refl _ | assumption | (simp; done) | omega | (simp; omega)) | refine Ext.drew ?_ | refine Ext.drewN ?_ _ | refine Ext.alloc ?_ _ | refine Ext.setCell ?_ (by first | assumption | (simp; done) | (simp; omega)) _ | refine Below.setCell ?_ (by first | assumption | (simp; done) | (simp; omega)) _ | refine Ext.trans ?_ (by assumption)))) (fun hHeld => ?_); clear hK K; (try simp only [Act.put, lyA, lyB, lyC])
        cases hp : valB y.value
        · have hv := Lib.hid (hv.out (by rw [hba.out, ho, hp]; rfl))
          refine tU 14 rfl (by kernel_rfl) (fun _ _ _ h => h) (by intro w hSw; (try dsimp only at hSw); go_simp <;> with_reducible rfl) (by assumption) ?_; (try simp only [Act.put, lyA, lyB, lyC])
          refine tU 15 rfl (by kernel_rfl) (fun _ _ _ h => h) (by intro w hSw; (try dsimp only at hSw); go_simp <;> with_reducible rfl) (by assumption) ?_; (try simp only [Act.put, lyA, lyB, lyC])
          refine tU 16 rfl (by kernel_rfl) (fun _ _ _ h => h) (by intro w hSw; (try dsimp only at hSw); go_simp <;> with_reducible rfl) (by assumption) ?_; (try simp only [Act.put, lyA, lyB, lyC])
          refine sU 17 rfl (by kernel_rfl) (fun _ _ _ h => h) (by assumption) ?_; (try simp only [Act.put, lyA, lyB, lyC])
          refine sU 18 rfl (by kernel_rfl) (fun _ _ _ h => h) (by assumption) ?_; (try simp only [Act.put, lyA, lyB, lyC])
          refine sU 19 rfl (by kernel_rfl) (fun _ _ _ h => h) (by assumption) ?_; (try simp only [Act.put, lyA, lyB, lyC])
          refine sU 20 rfl (by kernel_rfl) (fun _ _ _ h => h) (by assumption) ?_; (try simp only [Act.put, lyA, lyB, lyC])
          refine sU 21 rfl (by kernel_rfl) (fun _ _ _ h => h) (by assumption) ?_; (try simp only [Act.put, lyA, lyB, lyC])
          refine sU 22 rfl (by kernel_rfl) (fun _ _ _ h => h) (by assumption) ?_; (try simp only [Act.put, lyA, lyB, lyC])
          refine sU 23 rfl (by kernel_rfl) (fun _ _ _ h => h) (by assumption) ?_; (try simp only [Act.put, lyA, lyB, lyC])
          refine sU 24 rfl (by kernel_rfl) (fun _ _ _ h => h) (by assumption) ?_; (try simp only [Act.put, lyA, lyB, lyC])
          refine sU 25 rfl (by kernel_rfl) (fun _ _ _ h => h) (by assumption) ?_; (try simp only [Act.put, lyA, lyB, lyC])
          refine sU 26 rfl (by kernel_rfl) (fun _ _ _ h => h) (by assumption) ?_; (try simp only [Act.put, lyA, lyB, lyC])
          refine sU 27 rfl (by kernel_rfl) (fun _ _ _ h => h) (by assumption) ?_; (try simp only [Act.put, lyA, lyB, lyC])
          refine sU 28 rfl (by kernel_rfl) (fun _ _ _ h => h) (by assumption) ?_; (try simp only [Act.put, lyA, lyB, lyC])
          refine sU 29 rfl (by kernel_rfl) (fun _ _ _ h => h) (by assumption) ?_; (try simp only [Act.put, lyA, lyB, lyC])
          refine sU 30 rfl (by kernel_rfl) (fun _ _ _ h => h) (by assumption) ?_; (try simp only [Act.put, lyA, lyB, lyC])
          refine sU 31 rfl (by kernel_rfl) (fun _ _ _ h => h) (by assumption) ?_; (try simp only [Act.put, lyA, lyB, lyC])
          refine sU 32 rfl (by kernel_rfl) (fun _ _ _ h => h) (by assumption) ?_; (try simp only [Act.put, lyA, lyB, lyC])
          refine tU 33 rfl (by kernel_rfl) (fun _ _ _ h => h) (by intro w hSw; (try dsimp only at hSw); go_simp <;> with_reducible rfl) (by assumption) ?_; (try simp only [Act.put, lyA, lyB, lyC])
          refine wpAnyH_done (by kernel_rfl) ?_ _
          go_wp2_with fail
          go_ret
          exact ⟨by rw [hv.out]; rfl, by (repeat (first | exact Below.refl _ _ | exact Ext.refl _ | assumption | refine Below.drew ?_ | refine below_drewN ?_ _ | refine below_alloc ?_ (by first | exact Nat.le_refl _ | assumption | (simp; done) | omega | (simp; omega)) _ | refine below_ext ?_ (by assumption) (by first | exact Nat.le_refl _ | assumption | (simp; done) | omega | (simp; omega)) | refine Ext.drew ?_ | refine Ext.drewN ?_ _ | refine Ext.alloc ?_ _ | refine Ext.setCell ?_ (by first | assumption | (simp; done) | (simp; omega)) _ | refine Below.setCell ?_ (by first | assumption | (simp; done) | (simp; omega)) _ | refine Ext.trans ?_ (by assumption)))⟩
        · refine tU 14 rfl (by kernel_rfl) (fun _ _ _ h => h) (by intro w hSw; (try dsimp only at hSw); go_simp <;> with_reducible rfl) (by assumption) ?_; (try simp only [Act.put, lyA, lyB, lyC])
          refine tU 15 rfl (by kernel_rfl) (fun _ _ _ h => h) (by intro w hSw; (try dsimp only at hSw); go_simp <;> with_reducible rfl) (by assumption) ?_; (try simp only [Act.put, lyA, lyB, lyC])
          refine tU 16 rfl (by kernel_rfl) (fun _ _ _ h => h) (by intro w hSw; (try dsimp only at hSw); go_simp <;> with_reducible rfl) (by assumption) ?_; (try simp only [Act.put, lyA, lyB, lyC])
          cases k with
          | zero =>
            have hbf : Hid (badAt xs 0 = false) := by rw [hba.out, ho, hp]; rfl
            refine tU 17 rfl (by kernel_rfl) (fun _ _ _ h => h) (by intro w hSw; (try dsimp only at hSw); go_simp <;> with_reducible rfl) (by assumption) ?_; (try simp only [Act.put, lyA, lyB, lyC])
            refine tU 18 rfl (by kernel_rfl) (fun _ _ _ h => h) (by intro w hSw; (try dsimp only at hSw); go_simp <;> with_reducible rfl) (by assumption) ?_; (try simp only [Act.put, lyA, lyB, lyC])
            refine tU 19 rfl (by kernel_rfl) (fun _ _ _ h => h) (by intro w hSw; (try dsimp only at hSw); go_simp <;> with_reducible rfl) (by assumption) ?_; (try simp only [Act.put, lyA, lyB, lyC])
            refine sU 20 rfl (by kernel_rfl) (fun _ _ _ h => h) (by assumption) ?_; (try simp only [Act.put, lyA, lyB, lyC])
            refine sU 21 rfl (by kernel_rfl) (fun _ _ _ h => h) (by assumption) ?_; (try simp only [Act.put, lyA, lyB, lyC])
            refine sU 22 rfl (by kernel_rfl) (fun _ _ _ h => h) (by assumption) ?_; (try simp only [Act.put, lyA, lyB, lyC])
            refine sU 23 rfl (by kernel_rfl) (fun _ _ _ h => h) (by assumption) ?_; (try simp only [Act.put, lyA, lyB, lyC])
            refine sU 24 rfl (by kernel_rfl) (fun _ _ _ h => h) (by assumption) ?_; (try simp only [Act.put, lyA, lyB, lyC])
            refine sU 25 rfl (by kernel_rfl) (fun _ _ _ h => h) (by assumption) ?_; (try simp only [Act.put, lyA, lyB, lyC])
            refine sU 26 rfl (by kernel_rfl) (fun _ _ _ h => h) (by assumption) ?_; (try simp only [Act.put, lyA, lyB, lyC])
            refine sU 27 rfl (by kernel_rfl) (fun _ _ _ h => h) (by assumption) ?_; (try simp only [Act.put, lyA, lyB, lyC])
            refine sU 28 rfl (by kernel_rfl) (fun _ _ _ h => h) (by assumption) ?_; (try simp only [Act.put, lyA, lyB, lyC])
            refine sU 29 rfl (by kernel_rfl) (fun _ _ _ h => h) (by assumption) ?_; (try simp only [Act.put, lyA, lyB, lyC])
            refine sU 30 rfl (by kernel_rfl) (fun _ _ _ h => h) (by assumption) ?_; (try simp only [Act.put, lyA, lyB, lyC])
            refine sU 31 rfl (by kernel_rfl) (fun _ _ _ h => h) (by assumption) ?_; (try simp only [Act.put, lyA, lyB, lyC])
            refine tU 32 rfl (by kernel_rfl) (fun _ _ _ h => h) (by intro w hSw; (try dsimp only at hSw); go_simp <;> with_reducible rfl) (by assumption) ?_; (try simp only [Act.put, lyA, lyB, lyC])
            refine tU 33 rfl (by kernel_rfl) (fun _ _ _ h => h) (by intro w hSw; (try dsimp only at hSw); go_simp <;> with_reducible rfl) (by assumption) ?_; (try simp only [Act.put, lyA, lyB, lyC])
            refine wpAnyH_done (by kernel_rfl) ?_ _
            go_wp2_with fail
            go_roundw
            case rel =>
              refine ⟨1, by omega, by go_num, Lib.hid (by rw [hbs.out, HK.out, hbf.out]; rfl), by (repeat (first | exact Below.refl _ _ | exact Ext.refl _ | assumption | refine Below.drew ?_ | refine below_drewN ?_ _ | refine below_alloc ?_ (by first | exact Nat.le_refl _ | assumption | (simp; done) | omega | (simp; omega)) _ | refine below_ext ?_ (by assumption) (by first | exact Nat.le_refl _ | assumption | (simp; done) | omega | (simp; omega)) | refine Ext.drew ?_ | refine Ext.drewN ?_ _ | refine Ext.alloc ?_ _ | refine Ext.setCell ?_ (by first | assumption | (simp; done) | (simp; omega)) _ | refine Below.setCell ?_ (by first | assumption | (simp; done) | (simp; omega)) _ | refine Ext.trans ?_ (by assumption)))⟩
            case measure => (first | (simp [intOf]; done) | (simp [intOf]; omega))
          | succ j =>
            obtain ⟨b2, o2, hbo, _, _, f2, _⟩ := rd_prp hr (k := j) (by omega)
            obtain ⟨rfl, rfl⟩ : b1 = b2 ∧ o1 = o2 := by simpa using hbo
            rw [← nm_at xs j (by omega)] at f2
            have f3 : ∀ w', Ext wr w' → w'.cell? ⟨b1, o1 + j * 2, none⟩ = some (.string (nm xs j)) := fun w' h => by rw [Below.cell (e1.trans h) hb1]; exact f2
            have hd : decide (0 < j + 1) = true := by simp
            have hba : Hid (badAt xs (j + 1) = !lessB (nm xs j) y.name) := by
              have h := hba.out
              rw [Nat.add_sub_cancel, ho, hp, hd] at h
              exact h
            clear f2 hbo hd
            have hjn : (j : Int) < (n : Int) := by omega
            have p1 : (j : Int) + 1 < (n : Int) := by omega
            have p0 : (0 : Int) ≤ (j : Int) + 1 := by omega
            have hs0 : IntKind.i64.wrap (j : Int) = (j : Int) := IntWalk.i64_in _ (by omega)
            generalize nm xs j = z at *
            refine tU 17 rfl (by kernel_rfl) (fun _ _ _ h => h) (by intro w hSw; (try dsimp only at hSw); go_simp <;> with_reducible rfl) (by assumption) ?_; (try simp only [Act.put, lyA, lyB, lyC])
            refine tU 18 rfl (by kernel_rfl) (fun _ _ _ h => h) (by intro w hSw; (try dsimp only at hSw); go_simp <;> with_reducible rfl) (by assumption) ?_; (try simp only [Act.put, lyA, lyB, lyC])
            refine tU 19 rfl (by kernel_rfl) (fun _ _ _ h => h) (by intro w hSw; (try dsimp only at hSw); go_simp <;> with_reducible rfl) (by assumption) ?_; (try simp only [Act.put, lyA, lyB, lyC])
            refine tU 20 rfl (by kernel_rfl) (fun _ _ _ h => h) (by intro w hSw; (try dsimp only at hSw); go_simp <;> with_reducible rfl) (by assumption) ?_; (try simp only [Act.put, lyA, lyB, lyC])
            refine tU 21 rfl (by kernel_rfl) (fun _ _ _ h => h) (by intro w hSw; (try dsimp only at hSw); go_simp <;> with_reducible rfl) (by assumption) ?_; (try simp only [Act.put, lyA, lyB, lyC])
            refine tU 22 rfl (by kernel_rfl) (fun _ _ _ h => h) (by intro w hSw; (try dsimp only at hSw); go_simp <;> with_reducible rfl) (by assumption) ?_; (try simp only [Act.put, lyA, lyB, lyC])
            refine tU 23 rfl (by kernel_rfl) (fun _ _ _ h => h) (by intro w hSw; (try dsimp only at hSw); go_simp <;> with_reducible rfl) (by assumption) ?_; (try simp only [Act.put, lyA, lyB, lyC])
            refine tU 24 rfl (by kernel_rfl) (fun _ _ _ h => h) (by intro w hSw; (try dsimp only at hSw); go_simp <;> with_reducible rfl) (by assumption) ?_; (try simp only [Act.put, lyA, lyB, lyC])
            refine tU 25 rfl (by kernel_rfl) (fun _ _ _ h => h) (by intro w hSw; (try dsimp only at hSw); go_simp <;> with_reducible rfl) (by assumption) ?_; (try simp only [Act.put, lyA, lyB, lyC])
            refine tU 26 rfl (by kernel_rfl) (fun _ _ _ h => h) (by intro w hSw; (try dsimp only at hSw); go_simp <;> with_reducible rfl) (by assumption) ?_; (try simp only [Act.put, lyA, lyB, lyC])
            refine tU 27 rfl (by kernel_rfl) (fun _ _ _ h => h) (by intro w hSw; (try dsimp only at hSw); go_simp <;> with_reducible rfl) (by assumption) ?_; (try simp only [Act.put, lyA, lyB, lyC])
            refine tU 28 rfl (by kernel_rfl) (fun _ _ _ h => h) (by intro w hSw; (try dsimp only at hSw); go_simp <;> with_reducible rfl) (by assumption) ?_; (try simp only [Act.put, lyA, lyB, lyC])
            refine tU 29 rfl (by kernel_rfl) (fun _ _ _ h => h) (by intro w hSw; (try dsimp only at hSw); go_simp <;> with_reducible rfl) (by assumption) ?_; (try simp only [Act.put, lyA, lyB, lyC])
            refine tU 30 rfl (by kernel_rfl) (fun _ _ _ h => h) (by intro w hSw; (try dsimp only at hSw); go_simp <;> with_reducible rfl) (by assumption) ?_; (try simp only [Act.put, lyA, lyB, lyC])
            cases hq : lessB z y.name
            · have hv := Lib.hid (hv.out (by rw [hba.out, hq]; rfl))
              have hq2 : (Op.bytesLess y.name.toList z.toList || y.name.toList == z.toList) = true := by rw [← less_tot]; exact congrArg (! ·) hq
              refine tU 31 rfl (by kernel_rfl) (fun _ _ _ h => h) (by intro w hSw; (try dsimp only at hSw); go_simp <;> with_reducible rfl) (by assumption) ?_; (try simp only [Act.put, lyA, lyB, lyC])
              refine tU 32 rfl (by kernel_rfl) (fun _ _ _ h => h) (by intro w hSw; (try dsimp only at hSw); go_simp <;> with_reducible rfl) (by assumption) ?_; (try simp only [Act.put, lyA, lyB, lyC])
              refine tU 33 rfl (by kernel_rfl) (fun _ _ _ h => h) (by intro w hSw; (try dsimp only at hSw); go_simp <;> with_reducible rfl) (by assumption) ?_; (try simp only [Act.put, lyA, lyB, lyC])
              refine wpAnyH_done (by kernel_rfl) ?_ _
              go_wp2_with fail
              go_ret
              exact ⟨by rw [hv.out]; rfl, by (repeat (first | exact Below.refl _ _ | exact Ext.refl _ | assumption | refine Below.drew ?_ | refine below_drewN ?_ _ | refine below_alloc ?_ (by first | exact Nat.le_refl _ | assumption | (simp; done) | omega | (simp; omega)) _ | refine below_ext ?_ (by assumption) (by first | exact Nat.le_refl _ | assumption | (simp; done) | omega | (simp; omega)) | refine Ext.drew ?_ | refine Ext.drewN ?_ _ | refine Ext.alloc ?_ _ | refine Ext.setCell ?_ (by first | assumption | (simp; done) | (simp; omega)) _ | refine Below.setCell ?_ (by first | assumption | (simp; done) | (simp; omega)) _ | refine Ext.trans ?_ (by assumption)))⟩
            · have hbf : Hid (badAt xs (j + 1) = false) := by rw [Hid, hba.out, hq]; rfl
              have hq2 : (Op.bytesLess y.name.toList z.toList || y.name.toList == z.toList) = false := by rw [← less_tot]; exact congrArg (! ·) hq
              refine tU 31 rfl (by kernel_rfl) (fun _ _ _ h => h) (by intro w hSw; (try dsimp only at hSw); go_simp <;> with_reducible rfl) (by assumption) ?_; (try simp only [Act.put, lyA, lyB, lyC])
              refine tU 32 rfl (by kernel_rfl) (fun _ _ _ h => h) (by intro w hSw; (try dsimp only at hSw); go_simp <;> with_reducible rfl) (by assumption) ?_; (try simp only [Act.put, lyA, lyB, lyC])
              refine tU 33 rfl (by kernel_rfl) (fun _ _ _ h => h) (by intro w hSw; (try dsimp only at hSw); go_simp <;> with_reducible rfl) (by assumption) ?_; (try simp only [Act.put, lyA, lyB, lyC])
              refine wpAnyH_done (by kernel_rfl) ?_ _
              go_wp2_with fail
              go_roundw
              case rel =>
                refine ⟨j + 2, by omega, by go_num, Lib.hid (by rw [hbs.out, HK.out, hbf.out]; rfl), by (repeat (first | exact Below.refl _ _ | exact Ext.refl _ | assumption | refine Below.drew ?_ | refine below_drewN ?_ _ | refine below_alloc ?_ (by first | exact Nat.le_refl _ | assumption | (simp; done) | omega | (simp; omega)) _ | refine below_ext ?_ (by assumption) (by first | exact Nat.le_refl _ | assumption | (simp; done) | omega | (simp; omega)) | refine Ext.drew ?_ | refine Ext.drewN ?_ _ | refine Ext.alloc ?_ _ | refine Ext.setCell ?_ (by first | assumption | (simp; done) | (simp; omega)) _ | refine Below.setCell ?_ (by first | assumption | (simp; done) | (simp; omega)) _ | refine Ext.trans ?_ (by assumption)))⟩
              case measure => (first | (simp [intOf]; done) | (simp [intOf]; omega))
    · obtain rfl : k = n := by omega
      by_cases h8 : 8 < k
      · have hv : Hid (prE xs = 9) := by rw [Hid, prE, if_pos (by rw [← Hn.out]; exact h8)]
        go_wp2_with fail
        go_ret
        exact ⟨by rw [hv.out]; rfl, e1⟩
      · have hv : Hid (prE xs = 0) := by
          have h1 := HK.out
          rw [Hn.out] at h1 h8
          rw [Hid, prE, if_neg h8, h1]
          rfl
        go_wp2_with fail
        go_ret
        exact ⟨by rw [hv.out]; rfl, e1⟩
end Go.Proofs.YtckaneapjpiocaaGreatDoor
/- The reference's Begin and Check. -/
namespace Go.Proofs.YtckaneapjpiocaaGreatDoor
open Go.RowKit
set_option linter.unusedSimpArgs false
set_option linter.unusedVariables false

theorem ramount_any (w : World) (a b : Int) (h1 : -9223372036854775808 ≤ a) (h2 : a ≤ 9223372036854775807) :
    Calls Tryz.prog 30 #[.int .i64 a, .int .i64 b] w fun e w' => e = .returned (.bool (decide (b ≤ a) && decide (a ≤ 1099511627776))) ∧ Ext w w' := by
  go_enter Tryz.func30, Tryz.ntmps30
  go_wp2_with fail
  all_goals (go_ret; refine ⟨retB ?_, Ext.refl _⟩; (first | (simp [*]; done) | (simp [*]; omega)))
set_option maxHeartbeats 1000000 in
theorem begin_any (w : World) (x : Rec) (hr : Rd w 0 w.heap.size x.oA (prps x.own)) (hx : x.wf) (hk : x.kind = 1) :
    Calls Tryz.prog 79 #[.agg x.cells.toArray] w fun e w' => e = .returned (.bool (mayB x)) ∧ Ext w w' := by
  have HS := Lib.hid (show mayB x = (nameB x.name && decide (0 ≤ x.frm) && decide (x.frm ≤ 1099511627776) && decide (1 ≤ x.guid) && decide (x.guid ≤ 1099511627776) && decide (prE x.own = 0) && x.index == 0 && x.count == 0 && x.data.toList == [] && sumZ x) by rw [mayB, if_pos hk])
  obtain ⟨k, n, f, g, oA, on, oc, own, i, c, d, s0, s1, s2, s3⟩ := x
  obtain ⟨⟨h1, h2⟩, ⟨h3, h4⟩, ⟨h5, h6⟩, ⟨h7, h8⟩, ⟨h9, h10⟩, h11, h12, h13, h14, h15⟩ := hx
  simp only at hk h1 h2 h3 h4 h5 h6 h7 h8 h9 h10 h11 h12 h13 h14 h15 hr
  subst hk
  have H13 := Lib.hid h13
  have H15 := Lib.hid h15
  clear h13 h15
  generalize mayB _ = b at HS
  have hp : Hid (decide (prE own = 0) = (prE own == 0)) := Lib.hid (by rw [Bool.eq_iff_iff]; simp)
  have HP := Lib.hid (fun w1 (e1 : Ext w w1) => rprops_any w1 oA on oc own H13.out h14 (Rd.at hr e1 (Nat.le_refl _)) H15.out)
  generalize prE own = pe at *
  simp only [Rec.cells]
  go_enter Tryz.func79, Tryz.ntmps79
  go_upto_region 1 with (fail)
  generalize hw1 : World.alloc w _ = w1; obtain ⟨ew1, zw1, Gw1⟩ := box_cells hw1; have gw1_0 := Gw1 0 _ rfl; have gw1_1 := Gw1 1 _ rfl; have gw1_2 := Gw1 2 _ rfl; have gw1_3 := Gw1 3 _ rfl; have gw1_4 := Gw1 4 _ rfl; have gw1_5 := Gw1 5 _ rfl; have gw1_6 := Gw1 6 _ rfl; have gw1_7 := Gw1 7 _ rfl; have gw1_8 := Gw1 8 _ rfl; have gw1_9 := Gw1 9 _ rfl; have gw1_10 := Gw1 10 _ rfl; have gw1_11 := Gw1 11 _ rfl; have Zw1 := Lib.hid zw1; clear zw1 hw1 Gw1; have rw1 := Ext.refl w1
  go_wp2_with (first
    | (go_at_call 29; (with_reducible refine (rname_any n _ h11).mono ?_); rintro e wa ⟨rfl, ea⟩; have xa : Ext w1 wa := (by (repeat (first | exact Below.refl _ _ | exact Ext.refl _ | assumption | refine Below.drew ?_ | refine below_drewN ?_ _ | refine below_alloc ?_ (by first | exact Nat.le_refl _ | assumption | (simp; done) | omega | (simp; omega)) _ | refine below_ext ?_ (by assumption) (by first | exact Nat.le_refl _ | assumption | (simp; done) | omega | (simp; omega)) | refine Ext.drew ?_ | refine Ext.drewN ?_ _ | refine Ext.alloc ?_ _ | refine Ext.setCell ?_ (by first | assumption | (simp; done) | (simp; omega)) _ | refine Below.setCell ?_ (by first | assumption | (simp; done) | (simp; omega)) _ | refine Ext.trans ?_ (by assumption)))))
    | (go_at_call 30; (with_reducible refine (ramount_any _ f 0 h1 h2).mono ?_); rintro e wb ⟨rfl, eb⟩; have xb : Ext w1 wb := (by (repeat (first | exact Below.refl _ _ | exact Ext.refl _ | assumption | refine Below.drew ?_ | refine below_drewN ?_ _ | refine below_alloc ?_ (by first | exact Nat.le_refl _ | assumption | (simp; done) | omega | (simp; omega)) _ | refine below_ext ?_ (by assumption) (by first | exact Nat.le_refl _ | assumption | (simp; done) | omega | (simp; omega)) | refine Ext.drew ?_ | refine Ext.drewN ?_ _ | refine Ext.alloc ?_ _ | refine Ext.setCell ?_ (by first | assumption | (simp; done) | (simp; omega)) _ | refine Below.setCell ?_ (by first | assumption | (simp; done) | (simp; omega)) _ | refine Ext.trans ?_ (by assumption)))))
    | (go_at_call 30; (with_reducible refine (ramount_any _ g 1 h3 h4).mono ?_); rintro e wc ⟨rfl, ec⟩; have xc : Ext w1 wc := (by (repeat (first | exact Below.refl _ _ | exact Ext.refl _ | assumption | refine Below.drew ?_ | refine below_drewN ?_ _ | refine below_alloc ?_ (by first | exact Nat.le_refl _ | assumption | (simp; done) | omega | (simp; omega)) _ | refine below_ext ?_ (by assumption) (by first | exact Nat.le_refl _ | assumption | (simp; done) | omega | (simp; omega)) | refine Ext.drew ?_ | refine Ext.drewN ?_ _ | refine Ext.alloc ?_ _ | refine Ext.setCell ?_ (by first | assumption | (simp; done) | (simp; omega)) _ | refine Below.setCell ?_ (by first | assumption | (simp; done) | (simp; omega)) _ | refine Ext.trans ?_ (by assumption)))))
    | (go_at_call 56; refine (HP.out _ (by (repeat (first | exact Below.refl _ _ | exact Ext.refl _ | assumption | refine Below.drew ?_ | refine below_drewN ?_ _ | refine below_alloc ?_ (by first | exact Nat.le_refl _ | assumption | (simp; done) | omega | (simp; omega)) _ | refine below_ext ?_ (by assumption) (by first | exact Nat.le_refl _ | assumption | (simp; done) | omega | (simp; omega)) | refine Ext.drew ?_ | refine Ext.drewN ?_ _ | refine Ext.alloc ?_ _ | refine Ext.setCell ?_ (by first | assumption | (simp; done) | (simp; omega)) _ | refine Below.setCell ?_ (by first | assumption | (simp; done) | (simp; omega)) _ | refine Ext.trans ?_ (by assumption))))).mono ?_; rintro e wd ⟨rfl, ed⟩; have xd : Ext w1 wd := (by (repeat (first | exact Below.refl _ _ | exact Ext.refl _ | assumption | refine Below.drew ?_ | refine below_drewN ?_ _ | refine below_alloc ?_ (by first | exact Nat.le_refl _ | assumption | (simp; done) | omega | (simp; omega)) _ | refine below_ext ?_ (by assumption) (by first | exact Nat.le_refl _ | assumption | (simp; done) | omega | (simp; omega)) | refine Ext.drew ?_ | refine Ext.drewN ?_ _ | refine Ext.alloc ?_ _ | refine Ext.setCell ?_ (by first | assumption | (simp; done) | (simp; omega)) _ | refine Below.setCell ?_ (by first | assumption | (simp; done) | (simp; omega)) _ | refine Ext.trans ?_ (by assumption))))))
  all_goals (go_ret; refine ⟨retB ?_, by (repeat (first | exact Below.refl _ _ | exact Ext.refl _ | assumption | refine Below.drew ?_ | refine below_drewN ?_ _ | refine below_alloc ?_ (by first | exact Nat.le_refl _ | assumption | (simp; done) | omega | (simp; omega)) _ | refine below_ext ?_ (by assumption) (by first | exact Nat.le_refl _ | assumption | (simp; done) | omega | (simp; omega)) | refine Ext.drew ?_ | refine Ext.drewN ?_ _ | refine Ext.alloc ?_ _ | refine Ext.setCell ?_ (by first | assumption | (simp; done) | (simp; omega)) _ | refine Below.setCell ?_ (by first | assumption | (simp; done) | (simp; omega)) _ | refine Ext.trans ?_ (by assumption)))⟩; rw [HS.out]; (first | (simp [*, sumZ]; done) | (rw [hp.out]; simp [*, sumZ]; done) | trace_state))

def zeroR (x : Rec) : Bool := x.name.toList == [] && x.frm == 0 && x.guid == 0 && decide (x.on = 0)
def indR (x : Rec) : Bool := decide (0 ≤ x.index) && decide (x.index < 1024)
end Go.Proofs.YtckaneapjpiocaaGreatDoor
