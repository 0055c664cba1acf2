/- The texts Prp, Rec in one file. -/
import Derived.Test.YtckaneapjpiocaaGreatDoorM6
import Derived.Test.YtckaneapjpiocaaGreatDoorM2
import Derived.IntWalk
/- api.Prop: its cells; a list of them; which lists may be. -/
namespace Go.Proofs.YtckaneapjpiocaaGreatDoor
open Go.RowKit

structure Prp where
  name : ByteArray
  value : ByteArray
def Prp.cells (x : Prp) : List Value := [.string x.name, .string x.value]
def prps (xs : List Prp) : List Value := xs.flatMap Prp.cells
theorem prps_cons (x : Prp) (xs : List Prp) : prps (x :: xs) = x.cells ++ prps xs := by simp [prps]
theorem prps_length (xs : List Prp) : (prps xs).length = xs.length * 2 := by
  induction xs with
  | nil => rfl
  | cons x xs ih => rw [prps_cons, List.length_append, ih]; simp [Prp.cells]; omega
theorem prps_get (xs : List Prp) (k j : Nat) (hj : j < 2) (hk : k < xs.length) : (prps xs)[k * 2 + j]? = xs[k].cells[j]? := by
  induction xs generalizing k with
  | nil => simp at hk
  | cons x xs ih =>
    rw [prps_cons]
    cases k with
    | zero => rw [List.getElem?_append_left (by simp [Prp.cells]; omega)]; simp
    | succ k =>
      rw [List.getElem?_append_right (by simp [Prp.cells]; omega)]
      have : (k + 1) * 2 + j - x.cells.length = k * 2 + j := by simp [Prp.cells]; omega
      rw [this, ih k (by simpa using hk)]
      simp
theorem rd_prp {w : World} {lo hi : Nat} {A : Option Addr} {xs : List Prp} (h : Rd w lo hi A (prps xs)) {k : Nat} (hk : k < xs.length) :
    ∃ b o, A = some ⟨b, o, none⟩ ∧ lo ≤ b ∧ b < hi ∧ w.cell? ⟨b, o + k * 2, none⟩ = some (.string xs[k].name) ∧ w.cell? ⟨b, o + k * 2 + 1, none⟩ = some (.string xs[k].value) := by
  obtain ⟨b, o, h1, h2, h3, h4⟩ := h (fun e => by have := prps_length xs; rw [e] at this; simp at this; omega)
  have g : ∀ j, j < 2 → ∀ u, xs[k].cells[j]? = some u → w.cell? ⟨b, o + k * 2 + j, none⟩ = some u := fun j hj u hu => by
    rw [Nat.add_assoc]
    exact h4 _ u (by rw [prps_get xs k j hj hk]; exact hu)
  exact ⟨b, o, h1, h2, h3, g 0 (by omega) _ rfl, g 1 (by omega) _ rfl⟩

def lessB (a b : ByteArray) : Bool := Op.bytesLess a.toList b.toList
theorem less_tot (x y : List UInt8) : (!Op.bytesLess y x) = (Op.bytesLess x y || x == y) := by
  induction x generalizing y with
  | nil => cases y <;> simp [Op.bytesLess]
  | cons a x ih =>
    cases y with
    | nil => simp [Op.bytesLess]
    | cons b y =>
      have h := ih y
      simp only [Op.bytesLess, List.cons_beq_cons]
      by_cases h1 : a < b
      · have h2 : ¬ b < a := UInt8.not_lt.2 (UInt8.le_of_lt h1)
        have h3 : (b == a) = false := by rw [beq_eq_false_iff_ne]; intro e; subst e; exact absurd h1 (UInt8.lt_irrefl _)
        simp [h1, h2, h3]
      · by_cases h2 : b < a
        · have h3 : (a == b) = false := by rw [beq_eq_false_iff_ne]; intro e; subst e; exact absurd h2 (UInt8.lt_irrefl _)
          simp [h1, h2, h3]
        · have h3 : a = b := UInt8.le_antisymm (UInt8.not_lt.1 h2) (UInt8.not_lt.1 h1)
          subst h3
          simpa [h1] using h
theorem less_tot' (a b : ByteArray) : (lessB b a || b.toList == a.toList) = !lessB a b := (less_tot _ _).symm

def nm (xs : List Prp) (k : Nat) : ByteArray := (xs.map Prp.name).getD k .empty
def vl (xs : List Prp) (k : Nat) : ByteArray := (xs.map Prp.value).getD k .empty
theorem nm_at (xs : List Prp) (k : Nat) (h : k < xs.length) : nm xs k = xs[k].name := by simp [nm, h]
theorem vl_at (xs : List Prp) (k : Nat) (h : k < xs.length) : vl xs k = xs[k].value := by simp [vl, h]
/-- property k is none, or does not rise -/
def badAt (xs : List Prp) (k : Nat) : Bool := !nameB (nm xs k) || !valB (vl xs k) || (decide (0 < k) && !lessB (nm xs (k - 1)) (nm xs k))
def badUpto (xs : List Prp) (k : Nat) : Bool := (List.range k).any (badAt xs)
theorem badUpto_succ (xs : List Prp) (k : Nat) : badUpto xs (k + 1) = (badUpto xs k || badAt xs k) := by simp [badUpto, List.range_succ]
theorem badUpto_at (xs : List Prp) (k n : Nat) (h : k < n) (hb : badAt xs k = true) : badUpto xs n = true := List.any_eq_true.2 ⟨k, List.mem_range.2 h, hb⟩
/-- may properties be: 0, or 9 -/
def prE (xs : List Prp) : Int := if 8 < xs.length then 9 else if badUpto xs xs.length then 9 else 0

set_option linter.unusedSimpArgs false in
set_option maxHeartbeats 4000000 in
theorem pcheck_any (w : World) (A : Option Addr) (n c : Nat) (xs : List Prp) (hn : n = xs.length) (hm : n ≤ 9223372036854775807) (hr : Rd w 0 w.heap.size A (prps xs)) (hwf : ∀ x ∈ xs, x.name.size ≤ 9223372036854775807 ∧ x.value.size ≤ 9223372036854775807) :
    Calls Tryz.prog 117 #[.slice A n c] w fun e w' => e = .returned (.int .i64 (prE xs)) ∧ Ext w w' := by
  have Hn := Lib.hid hn
  have HW := Lib.hid hwf
  by_cases h8 : 8 < n
  · have hv : Hid (prE xs = 9) := by rw [Hid, prE, if_pos (by omega)]
    clear hn hwf
    go_enter Tryz.func117, Tryz.ntmps117
    go_wp2_with fail
    go_ret
    exact ⟨by rw [hv.out]; rfl, Ext.refl _⟩
  · clear hn hwf
    go_enter Tryz.func117, Tryz.ntmps117
    go_wp2_with fail
    go_loopw [10] (fun i wr => ∃ k : Nat, k ≤ n ∧ i = .int .i64 k ∧ Hid (badUpto xs k = false) ∧ Ext w wr) (fun i _ => n - (intOf i).toNat)
    case atStart => exact ⟨0, Nat.zero_le _, rfl, by rw [Hid]; rfl, Ext.refl _⟩
    case round =>
      obtain ⟨k, hk, rfl, HK, e1⟩ := hrel
      by_cases hlt : k < n
      · have hl : k < xs.length := by rw [← Hn.out]; omega
        have hmem := HW.out xs[k] (List.getElem_mem _)
        obtain ⟨b1, o1, rfl, _, hb1, f0, f1⟩ := rd_prp hr hl
        have hba : Hid (badAt xs k = (!nameB xs[k].name || !valB xs[k].value || (decide (0 < k) && !lessB (nm xs (k - 1)) xs[k].name))) := by rw [Hid, badAt, nm_at xs k hl, vl_at xs k hl]
        have hbs := Lib.hid (badUpto_succ xs k)
        have hba2 := Lib.hid (badUpto_at xs k xs.length hl)
        generalize xs[k] = y at *
        have g0 : wr.cell? ⟨b1, o1 + k * 2, none⟩ = some (.string y.name) := by rw [Below.cell e1 hb1]; exact f0
        have g1 : wr.cell? ⟨b1, o1 + k * 2 + 1, none⟩ = some (.string y.value) := by rw [Below.cell e1 hb1]; exact f1
        go_wp2_with fail
        generalize hw1 : World.alloc wr _ = w1; obtain ⟨ew1, zw1, Gw1⟩ := box_cells hw1; have gw1_0 := Gw1 0 _ rfl; have gw1_1 := Gw1 1 _ rfl; have Zw1 := Lib.hid zw1; clear zw1 hw1 Gw1; have rw1 := Ext.refl w1
        have hle : ¬ 8 < xs.length := by rw [← Hn.out]; exact h8
        have hv : Hid (badAt xs k = true → prE xs = 9) := Lib.hid fun h => by rw [prE, if_neg hle, if_pos (hba2.out h)]
        have E1 : Ext w w1 := e1.trans ew1
        refine wp_region_held_drew (S := fun w' => Ext w1 w') (by kernel_rfl) (by (repeat (first | exact Below.refl _ _ | exact Ext.refl _ | assumption | refine Below.drew ?_ | refine below_drewN ?_ _ | refine below_alloc ?_ (by first | exact Nat.le_refl _ | assumption | (simp; done) | omega | (simp; omega)) _ | refine below_ext ?_ (by assumption) (by first | exact Nat.le_refl _ | assumption | (simp; done) | omega | (simp; omega)) | refine Ext.drew ?_ | refine Ext.drewN ?_ _ | refine Ext.alloc ?_ _ | refine Ext.setCell ?_ (by first | assumption | (simp; done) | (simp; omega)) _ | refine Below.setCell ?_ (by first | assumption | (simp; done) | (simp; omega)) _ | refine Ext.trans ?_ (by assumption)))) (fun hHeld => ?_)
        refine tU 0 rfl (by kernel_rfl) (fun _ _ _ h => h) (by intro w hSw; (try dsimp only at hSw); go_simp <;> with_reducible rfl) (by assumption) ?_; (try simp only [Act.put, lyA, lyB, lyC])
        refine tU 1 rfl (by kernel_rfl) (fun _ _ _ h => h) (by intro w hSw; (try dsimp only at hSw); go_simp <;> with_reducible rfl) (by assumption) ?_; (try simp only [Act.put, lyA, lyB, lyC])
        refine oneL 2 rfl (by kernel_rfl) (by kernel_rfl) (fun K hK => ?_); go_simp
        refine (name_any y.name _ hmem.1).mono ?_
        rintro e wa ⟨rfl, ea⟩
        go_wp2_with fail; refine hK.out _ _ (by (repeat (first | exact Below.refl _ _ | exact Ext.refl _ | assumption | refine Below.drew ?_ | refine below_drewN ?_ _ | refine below_alloc ?_ (by first | exact Nat.le_refl _ | assumption | (simp; done) | omega | (simp; omega)) _ | refine below_ext ?_ (by assumption) (by first | exact Nat.le_refl _ | assumption | (simp; done) | omega | (simp; omega)) | refine Ext.drew ?_ | refine Ext.drewN ?_ _ | refine Ext.alloc ?_ _ | refine Ext.setCell ?_ (by first | assumption | (simp; done) | (simp; omega)) _ | refine Below.setCell ?_ (by first | assumption | (simp; done) | (simp; omega)) _ | refine Ext.trans ?_ (by assumption)))) (fun hHeld => ?_); clear hK K; (try simp only [Act.put, lyA, lyB, lyC])
        cases ho : nameB y.name
        · have hv := Lib.hid (hv.out (by rw [hba.out, ho]; rfl))
          refine tU 3 rfl (by kernel_rfl) (fun _ _ _ h => h) (by intro w hSw; (try dsimp only at hSw); go_simp <;> with_reducible rfl) (by assumption) ?_; (try simp only [Act.put, lyA, lyB, lyC])
          refine tU 4 rfl (by kernel_rfl) (fun _ _ _ h => h) (by intro w hSw; (try dsimp only at hSw); go_simp <;> with_reducible rfl) (by assumption) ?_; (try simp only [Act.put, lyA, lyB, lyC])
          refine sU 5 rfl (by kernel_rfl) (fun _ _ _ h => h) (by assumption) ?_; (try simp only [Act.put, lyA, lyB, lyC])
          refine sU 6 rfl (by kernel_rfl) (fun _ _ _ h => h) (by assumption) ?_; (try simp only [Act.put, lyA, lyB, lyC])
          refine sU 7 rfl (by kernel_rfl) (fun _ _ _ h => h) (by assumption) ?_; (try simp only [Act.put, lyA, lyB, lyC])
          refine sU 8 rfl (by kernel_rfl) (fun _ _ _ h => h) (by assumption) ?_; (try simp only [Act.put, lyA, lyB, lyC])
          refine tU 9 rfl (by kernel_rfl) (fun _ _ _ h => h) (by intro w hSw; (try dsimp only at hSw); go_simp <;> with_reducible rfl) (by assumption) ?_; (try simp only [Act.put, lyA, lyB, lyC])
          refine tU 10 rfl (by kernel_rfl) (fun _ _ _ h => h) (by intro w hSw; (try dsimp only at hSw); go_simp <;> with_reducible rfl) (by assumption) ?_; (try simp only [Act.put, lyA, lyB, lyC])
          refine sU 11 rfl (by kernel_rfl) (fun _ _ _ h => h) (by assumption) ?_; (try simp only [Act.put, lyA, lyB, lyC])
          refine sU 12 rfl (by kernel_rfl) (fun _ _ _ h => h) (by assumption) ?_; (try simp only [Act.put, lyA, lyB, lyC])
          refine sU 13 rfl (by kernel_rfl) (fun _ _ _ h => h) (by assumption) ?_; (try simp only [Act.put, lyA, lyB, lyC])
          refine sU 14 rfl (by kernel_rfl) (fun _ _ _ h => h) (by assumption) ?_; (try simp only [Act.put, lyA, lyB, lyC])
          refine sU 15 rfl (by kernel_rfl) (fun _ _ _ h => h) (by assumption) ?_; (try simp only [Act.put, lyA, lyB, lyC])
          refine sU 16 rfl (by kernel_rfl) (fun _ _ _ h => h) (by assumption) ?_; (try simp only [Act.put, lyA, lyB, lyC])
          refine sU 17 rfl (by kernel_rfl) (fun _ _ _ h => h) (by assumption) ?_; (try simp only [Act.put, lyA, lyB, lyC])
          refine sU 18 rfl (by kernel_rfl) (fun _ _ _ h => h) (by assumption) ?_; (try simp only [Act.put, lyA, lyB, lyC])
          refine sU 19 rfl (by kernel_rfl) (fun _ _ _ h => h) (by assumption) ?_; (try simp only [Act.put, lyA, lyB, lyC])
          refine sU 20 rfl (by kernel_rfl) (fun _ _ _ h => h) (by assumption) ?_; (try simp only [Act.put, lyA, lyB, lyC])
          refine sU 21 rfl (by kernel_rfl) (fun _ _ _ h => h) (by assumption) ?_; (try simp only [Act.put, lyA, lyB, lyC])
          refine sU 22 rfl (by kernel_rfl) (fun _ _ _ h => h) (by assumption) ?_; (try simp only [Act.put, lyA, lyB, lyC])
          refine sU 23 rfl (by kernel_rfl) (fun _ _ _ h => h) (by assumption) ?_; (try simp only [Act.put, lyA, lyB, lyC])
          refine tU 24 rfl (by kernel_rfl) (fun _ _ _ h => h) (by intro w hSw; (try dsimp only at hSw); go_simp <;> with_reducible rfl) (by assumption) ?_; (try simp only [Act.put, lyA, lyB, lyC])
          refine wpAnyH_done (by kernel_rfl) ?_ _
          go_wp2_with fail
          go_ret
          exact ⟨by rw [hv.out]; rfl, by (repeat (first | exact Below.refl _ _ | exact Ext.refl _ | assumption | refine Below.drew ?_ | refine below_drewN ?_ _ | refine below_alloc ?_ (by first | exact Nat.le_refl _ | assumption | (simp; done) | omega | (simp; omega)) _ | refine below_ext ?_ (by assumption) (by first | exact Nat.le_refl _ | assumption | (simp; done) | omega | (simp; omega)) | refine Ext.drew ?_ | refine Ext.drewN ?_ _ | refine Ext.alloc ?_ _ | refine Ext.setCell ?_ (by first | assumption | (simp; done) | (simp; omega)) _ | refine Below.setCell ?_ (by first | assumption | (simp; done) | (simp; omega)) _ | refine Ext.trans ?_ (by assumption)))⟩
        · refine tU 3 rfl (by kernel_rfl) (fun _ _ _ h => h) (by intro w hSw; (try dsimp only at hSw); go_simp <;> with_reducible rfl) (by assumption) ?_; (try simp only [Act.put, lyA, lyB, lyC])
          refine tU 4 rfl (by kernel_rfl) (fun _ _ _ h => h) (by intro w hSw; (try dsimp only at hSw); go_simp <;> with_reducible rfl) (by assumption) ?_; (try simp only [Act.put, lyA, lyB, lyC])
          refine tU 5 rfl (by kernel_rfl) (fun _ _ _ h => h) (by intro w hSw; (try dsimp only at hSw); go_simp <;> with_reducible rfl) (by assumption) ?_; (try simp only [Act.put, lyA, lyB, lyC])
          refine tU 6 rfl (by kernel_rfl) (fun _ _ _ h => h) (by intro w hSw; (try dsimp only at hSw); go_simp <;> with_reducible rfl) (by assumption) ?_; (try simp only [Act.put, lyA, lyB, lyC])
          refine oneL 7 rfl (by kernel_rfl) (by kernel_rfl) (fun K hK => ?_); go_simp
          refine (value_any y.value _ hmem.2).mono ?_
          rintro e wb ⟨rfl, eb⟩
          go_wp2_with fail; refine hK.out _ _ (by (repeat (first | exact Below.refl _ _ | exact Ext.refl _ | assumption | refine Below.drew ?_ | refine below_drewN ?_ _ | refine below_alloc ?_ (by first | exact Nat.le_refl _ | assumption | (simp; done) | omega | (simp; omega)) _ | refine below_ext ?_ (by assumption) (by first | exact Nat.le_refl _ | assumption | (simp; done) | omega | (simp; omega)) | refine Ext.drew ?_ | refine Ext.drewN ?_ _ | refine Ext.alloc ?_ _ | refine Ext.setCell ?_ (by first | assumption | (simp; done) | (simp; omega)) _ | refine Below.setCell ?_ (by first | assumption | (simp; done) | (simp; omega)) _ | refine Ext.trans ?_ (by assumption)))) (fun hHeld => ?_); clear hK K; (try simp only [Act.put, lyA, lyB, lyC])
          cases hp : valB y.value
          · have hv := Lib.hid (hv.out (by rw [hba.out, ho, hp]; rfl))
            refine tU 8 rfl (by kernel_rfl) (fun _ _ _ h => h) (by intro w hSw; (try dsimp only at hSw); go_simp <;> with_reducible rfl) (by assumption) ?_; (try simp only [Act.put, lyA, lyB, lyC])
            refine tU 9 rfl (by kernel_rfl) (fun _ _ _ h => h) (by intro w hSw; (try dsimp only at hSw); go_simp <;> with_reducible rfl) (by assumption) ?_; (try simp only [Act.put, lyA, lyB, lyC])
            refine tU 10 rfl (by kernel_rfl) (fun _ _ _ h => h) (by intro w hSw; (try dsimp only at hSw); go_simp <;> with_reducible rfl) (by assumption) ?_; (try simp only [Act.put, lyA, lyB, lyC])
            refine sU 11 rfl (by kernel_rfl) (fun _ _ _ h => h) (by assumption) ?_; (try simp only [Act.put, lyA, lyB, lyC])
            refine sU 12 rfl (by kernel_rfl) (fun _ _ _ h => h) (by assumption) ?_; (try simp only [Act.put, lyA, lyB, lyC])
            refine sU 13 rfl (by kernel_rfl) (fun _ _ _ h => h) (by assumption) ?_; (try simp only [Act.put, lyA, lyB, lyC])
            refine sU 14 rfl (by kernel_rfl) (fun _ _ _ h => h) (by assumption) ?_; (try simp only [Act.put, lyA, lyB, lyC])
            refine sU 15 rfl (by kernel_rfl) (fun _ _ _ h => h) (by assumption) ?_; (try simp only [Act.put, lyA, lyB, lyC])
            refine sU 16 rfl (by kernel_rfl) (fun _ _ _ h => h) (by assumption) ?_; (try simp only [Act.put, lyA, lyB, lyC])
            refine sU 17 rfl (by kernel_rfl) (fun _ _ _ h => h) (by assumption) ?_; (try simp only [Act.put, lyA, lyB, lyC])
            refine sU 18 rfl (by kernel_rfl) (fun _ _ _ h => h) (by assumption) ?_; (try simp only [Act.put, lyA, lyB, lyC])
            refine sU 19 rfl (by kernel_rfl) (fun _ _ _ h => h) (by assumption) ?_; (try simp only [Act.put, lyA, lyB, lyC])
            refine sU 20 rfl (by kernel_rfl) (fun _ _ _ h => h) (by assumption) ?_; (try simp only [Act.put, lyA, lyB, lyC])
            refine sU 21 rfl (by kernel_rfl) (fun _ _ _ h => h) (by assumption) ?_; (try simp only [Act.put, lyA, lyB, lyC])
            refine sU 22 rfl (by kernel_rfl) (fun _ _ _ h => h) (by assumption) ?_; (try simp only [Act.put, lyA, lyB, lyC])
            refine sU 23 rfl (by kernel_rfl) (fun _ _ _ h => h) (by assumption) ?_; (try simp only [Act.put, lyA, lyB, lyC])
            refine tU 24 rfl (by kernel_rfl) (fun _ _ _ h => h) (by intro w hSw; (try dsimp only at hSw); go_simp <;> with_reducible rfl) (by assumption) ?_; (try simp only [Act.put, lyA, lyB, lyC])
            refine wpAnyH_done (by kernel_rfl) ?_ _
            go_wp2_with fail
            go_ret
            exact ⟨by rw [hv.out]; rfl, by (repeat (first | exact Below.refl _ _ | exact Ext.refl _ | assumption | refine Below.drew ?_ | refine below_drewN ?_ _ | refine below_alloc ?_ (by first | exact Nat.le_refl _ | assumption | (simp; done) | omega | (simp; omega)) _ | refine below_ext ?_ (by assumption) (by first | exact Nat.le_refl _ | assumption | (simp; done) | omega | (simp; omega)) | refine Ext.drew ?_ | refine Ext.drewN ?_ _ | refine Ext.alloc ?_ _ | refine Ext.setCell ?_ (by first | assumption | (simp; done) | (simp; omega)) _ | refine Below.setCell ?_ (by first | assumption | (simp; done) | (simp; omega)) _ | refine Ext.trans ?_ (by assumption)))⟩
          · refine tU 8 rfl (by kernel_rfl) (fun _ _ _ h => h) (by intro w hSw; (try dsimp only at hSw); go_simp <;> with_reducible rfl) (by assumption) ?_; (try simp only [Act.put, lyA, lyB, lyC])
            refine tU 9 rfl (by kernel_rfl) (fun _ _ _ h => h) (by intro w hSw; (try dsimp only at hSw); go_simp <;> with_reducible rfl) (by assumption) ?_; (try simp only [Act.put, lyA, lyB, lyC])
            refine tU 10 rfl (by kernel_rfl) (fun _ _ _ h => h) (by intro w hSw; (try dsimp only at hSw); go_simp <;> with_reducible rfl) (by assumption) ?_; (try simp only [Act.put, lyA, lyB, lyC])
            cases k with
            | zero =>
              have hbf : Hid (badAt xs 0 = false) := by rw [hba.out, ho, hp]; rfl
              refine tU 11 rfl (by kernel_rfl) (fun _ _ _ h => h) (by intro w hSw; (try dsimp only at hSw); go_simp <;> with_reducible rfl) (by assumption) ?_; (try simp only [Act.put, lyA, lyB, lyC])
              refine tU 12 rfl (by kernel_rfl) (fun _ _ _ h => h) (by intro w hSw; (try dsimp only at hSw); go_simp <;> with_reducible rfl) (by assumption) ?_; (try simp only [Act.put, lyA, lyB, lyC])
              refine tU 13 rfl (by kernel_rfl) (fun _ _ _ h => h) (by intro w hSw; (try dsimp only at hSw); go_simp <;> with_reducible rfl) (by assumption) ?_; (try simp only [Act.put, lyA, lyB, lyC])
              refine sU 14 rfl (by kernel_rfl) (fun _ _ _ h => h) (by assumption) ?_; (try simp only [Act.put, lyA, lyB, lyC])
              refine sU 15 rfl (by kernel_rfl) (fun _ _ _ h => h) (by assumption) ?_; (try simp only [Act.put, lyA, lyB, lyC])
              refine sU 16 rfl (by kernel_rfl) (fun _ _ _ h => h) (by assumption) ?_; (try simp only [Act.put, lyA, lyB, lyC])
              refine sU 17 rfl (by kernel_rfl) (fun _ _ _ h => h) (by assumption) ?_; (try simp only [Act.put, lyA, lyB, lyC])
              refine sU 18 rfl (by kernel_rfl) (fun _ _ _ h => h) (by assumption) ?_; (try simp only [Act.put, lyA, lyB, lyC])
              refine sU 19 rfl (by kernel_rfl) (fun _ _ _ h => h) (by assumption) ?_; (try simp only [Act.put, lyA, lyB, lyC])
              refine sU 20 rfl (by kernel_rfl) (fun _ _ _ h => h) (by assumption) ?_; (try simp only [Act.put, lyA, lyB, lyC])
              refine sU 21 rfl (by kernel_rfl) (fun _ _ _ h => h) (by assumption) ?_; (try simp only [Act.put, lyA, lyB, lyC])
              refine sU 22 rfl (by kernel_rfl) (fun _ _ _ h => h) (by assumption) ?_; (try simp only [Act.put, lyA, lyB, lyC])
              refine tU 23 rfl (by kernel_rfl) (fun _ _ _ h => h) (by intro w hSw; (try dsimp only at hSw); go_simp <;> with_reducible rfl) (by assumption) ?_; (try simp only [Act.put, lyA, lyB, lyC])
              refine tU 24 rfl (by kernel_rfl) (fun _ _ _ h => h) (by intro w hSw; (try dsimp only at hSw); go_simp <;> with_reducible rfl) (by assumption) ?_; (try simp only [Act.put, lyA, lyB, lyC])
              refine wpAnyH_done (by kernel_rfl) ?_ _
              go_wp2_with fail
              go_roundw
              case rel =>
                refine ⟨1, by omega, by go_num, Lib.hid (by rw [hbs.out, HK.out, hbf.out]; rfl), by (repeat (first | exact Below.refl _ _ | exact Ext.refl _ | assumption | refine Below.drew ?_ | refine below_drewN ?_ _ | refine below_alloc ?_ (by first | exact Nat.le_refl _ | assumption | (simp; done) | omega | (simp; omega)) _ | refine below_ext ?_ (by assumption) (by first | exact Nat.le_refl _ | assumption | (simp; done) | omega | (simp; omega)) | refine Ext.drew ?_ | refine Ext.drewN ?_ _ | refine Ext.alloc ?_ _ | refine Ext.setCell ?_ (by first | assumption | (simp; done) | (simp; omega)) _ | refine Below.setCell ?_ (by first | assumption | (simp; done) | (simp; omega)) _ | refine Ext.trans ?_ (by assumption)))⟩
              case measure => (first | (simp [intOf]; done) | (simp [intOf]; omega))
            | succ j =>
              obtain ⟨b2, o2, hbo, _, _, f2, _⟩ := rd_prp hr (k := j) (by omega)
              obtain ⟨rfl, rfl⟩ : b1 = b2 ∧ o1 = o2 := by simpa using hbo
              rw [← nm_at xs j (by omega)] at f2
              have f3 : ∀ w', Ext w1 w' → w'.cell? ⟨b1, o1 + j * 2, none⟩ = some (.string (nm xs j)) := fun w' h => by rw [Below.cell (E1.trans h) hb1]; exact f2
              have hd : decide (0 < j + 1) = true := by simp
              have hba := Lib.hid hba.out
              have hba : Hid (badAt xs (j + 1) = !lessB (nm xs j) y.name) := by
                have h := hba.out
                rw [Nat.add_sub_cancel, ho, hp, hd] at h
                exact h
              clear f2 hbo hd
              have hjn : (j : Int) < (n : Int) := by omega
              have hs0 : IntKind.i64.wrap (j : Int) = (j : Int) := IntWalk.i64_in _ (by omega)
              generalize nm xs j = z at *
              refine tU 11 rfl (by kernel_rfl) (fun _ _ _ h => h) (by intro w hSw; (try dsimp only at hSw); go_simp <;> with_reducible rfl) (by assumption) ?_; (try simp only [Act.put, lyA, lyB, lyC])
              refine tU 12 rfl (by kernel_rfl) (fun _ _ _ h => h) (by intro w hSw; (try dsimp only at hSw); go_simp <;> with_reducible rfl) (by assumption) ?_; (try simp only [Act.put, lyA, lyB, lyC])
              refine tU 13 rfl (by kernel_rfl) (fun _ _ _ h => h) (by intro w hSw; (try dsimp only at hSw); go_simp <;> with_reducible rfl) (by assumption) ?_; (try simp only [Act.put, lyA, lyB, lyC])
              refine tU 14 rfl (by kernel_rfl) (fun _ _ _ h => h) (by intro w hSw; (try dsimp only at hSw); go_simp <;> with_reducible rfl) (by assumption) ?_; (try simp only [Act.put, lyA, lyB, lyC])
              refine tU 15 rfl (by kernel_rfl) (fun _ _ _ h => h) (by intro w hSw; (try dsimp only at hSw); go_simp <;> with_reducible rfl) (by assumption) ?_; (try simp only [Act.put, lyA, lyB, lyC])
              refine tU 16 rfl (by kernel_rfl) (fun _ _ _ h => h) (by intro w hSw; (try dsimp only at hSw); go_simp <;> with_reducible rfl) (by assumption) ?_; (try simp only [Act.put, lyA, lyB, lyC])
              refine tU 17 rfl (by kernel_rfl) (fun _ _ _ h => h) (by intro w hSw; (try dsimp only at hSw); go_simp <;> with_reducible rfl) (by assumption) ?_; (try simp only [Act.put, lyA, lyB, lyC])
              refine tU 18 rfl (by kernel_rfl) (fun _ _ _ h => h) (by intro w hSw; (try dsimp only at hSw); go_simp <;> with_reducible rfl) (by assumption) ?_; (try simp only [Act.put, lyA, lyB, lyC])
              refine tU 19 rfl (by kernel_rfl) (fun _ _ _ h => h) (by intro w hSw; (try dsimp only at hSw); go_simp <;> with_reducible rfl) (by assumption) ?_; (try simp only [Act.put, lyA, lyB, lyC])
              refine tU 20 rfl (by kernel_rfl) (fun _ _ _ h => h) (by intro w hSw; (try dsimp only at hSw); go_simp <;> with_reducible rfl) (by assumption) ?_; (try simp only [Act.put, lyA, lyB, lyC])
              refine tU 21 rfl (by kernel_rfl) (fun _ _ _ h => h) (by intro w hSw; (try dsimp only at hSw); go_simp <;> with_reducible rfl) (by assumption) ?_; (try simp only [Act.put, lyA, lyB, lyC])
              cases hq : lessB z y.name
              · have hv := Lib.hid (hv.out (by rw [hba.out, hq]; rfl))
                have hq2 : Op.bytesLess z.toList y.name.toList = false := hq
                refine tU 22 rfl (by kernel_rfl) (fun _ _ _ h => h) (by intro w hSw; (try dsimp only at hSw); go_simp <;> with_reducible rfl) (by assumption) ?_; (try simp only [Act.put, lyA, lyB, lyC])
                refine tU 23 rfl (by kernel_rfl) (fun _ _ _ h => h) (by intro w hSw; (try dsimp only at hSw); go_simp <;> with_reducible rfl) (by assumption) ?_; (try simp only [Act.put, lyA, lyB, lyC])
                refine tU 24 rfl (by kernel_rfl) (fun _ _ _ h => h) (by intro w hSw; (try dsimp only at hSw); go_simp <;> with_reducible rfl) (by assumption) ?_; (try simp only [Act.put, lyA, lyB, lyC])
                refine wpAnyH_done (by kernel_rfl) ?_ _
                go_wp2_with fail
                go_ret
                exact ⟨by rw [hv.out]; rfl, by (repeat (first | exact Below.refl _ _ | exact Ext.refl _ | assumption | refine Below.drew ?_ | refine below_drewN ?_ _ | refine below_alloc ?_ (by first | exact Nat.le_refl _ | assumption | (simp; done) | omega | (simp; omega)) _ | refine below_ext ?_ (by assumption) (by first | exact Nat.le_refl _ | assumption | (simp; done) | omega | (simp; omega)) | refine Ext.drew ?_ | refine Ext.drewN ?_ _ | refine Ext.alloc ?_ _ | refine Ext.setCell ?_ (by first | assumption | (simp; done) | (simp; omega)) _ | refine Below.setCell ?_ (by first | assumption | (simp; done) | (simp; omega)) _ | refine Ext.trans ?_ (by assumption)))⟩
              · have hbf : Hid (badAt xs (j + 1) = false) := by rw [Hid, hba.out, hq]; rfl
                have hq2 : Op.bytesLess z.toList y.name.toList = true := hq
                refine tU 22 rfl (by kernel_rfl) (fun _ _ _ h => h) (by intro w hSw; (try dsimp only at hSw); go_simp <;> with_reducible rfl) (by assumption) ?_; (try simp only [Act.put, lyA, lyB, lyC])
                refine tU 23 rfl (by kernel_rfl) (fun _ _ _ h => h) (by intro w hSw; (try dsimp only at hSw); go_simp <;> with_reducible rfl) (by assumption) ?_; (try simp only [Act.put, lyA, lyB, lyC])
                refine tU 24 rfl (by kernel_rfl) (fun _ _ _ h => h) (by intro w hSw; (try dsimp only at hSw); go_simp <;> with_reducible rfl) (by assumption) ?_; (try simp only [Act.put, lyA, lyB, lyC])
                refine wpAnyH_done (by kernel_rfl) ?_ _
                go_wp2_with fail
                go_roundw
                case rel =>
                  refine ⟨j + 2, by omega, by go_num, Lib.hid (by rw [hbs.out, HK.out, hbf.out]; rfl), by (repeat (first | exact Below.refl _ _ | exact Ext.refl _ | assumption | refine Below.drew ?_ | refine below_drewN ?_ _ | refine below_alloc ?_ (by first | exact Nat.le_refl _ | assumption | (simp; done) | omega | (simp; omega)) _ | refine below_ext ?_ (by assumption) (by first | exact Nat.le_refl _ | assumption | (simp; done) | omega | (simp; omega)) | refine Ext.drew ?_ | refine Ext.drewN ?_ _ | refine Ext.alloc ?_ _ | refine Ext.setCell ?_ (by first | assumption | (simp; done) | (simp; omega)) _ | refine Below.setCell ?_ (by first | assumption | (simp; done) | (simp; omega)) _ | refine Ext.trans ?_ (by assumption)))⟩
                case measure => (first | (simp [intOf]; done) | (simp [intOf]; omega))
      · obtain rfl : k = n := by omega
        have hv : Hid (prE xs = 0) := by
          have h1 := HK.out
          rw [Hn.out] at h1 h8
          rw [Hid, prE, if_neg h8, h1]
          rfl
        go_wp2_with fail
        go_ret
        exact ⟨by rw [hv.out]; rfl, e1⟩
end Go.Proofs.YtckaneapjpiocaaGreatDoor
/- api.Record as cells; record.Same against a record without properties. -/
namespace Go.Proofs.YtckaneapjpiocaaGreatDoor
open Go.RowKit

structure Rec where
  kind : Int
  name : ByteArray
  frm : Int
  guid : Int
  oA : Option Addr
  on : Nat
  oc : Nat
  own : List Prp
  index : Int
  count : Int
  data : ByteArray
  s0 : Int
  s1 : Int
  s2 : Int
  s3 : Int
def Rec.cells (x : Rec) : List Value := [.int .i64 x.kind, .string x.name, .int .i64 x.frm, .int .i64 x.guid, .slice x.oA x.on x.oc, .int .i64 x.index, .int .i64 x.count, .string x.data, .int .u64 x.s0, .int .u64 x.s1, .int .u64 x.s2, .int .u64 x.s3]

theorem eq0_any (w : World) (A : Option Addr) (n c : Nat) (hm : n ≤ 9223372036854775807) :
    Calls Tryz.prog 242 #[.slice A n c, .slice none 0 0] w fun e w' => e = .returned (.bool (decide (n = 0))) ∧ Ext w w' := by
  by_cases h0 : n = 0
  · subst h0
    go_enter Tryz.func242, Tryz.ntmps242
    go_wp2_with fail
    go_loopw [13] (fun i wr => i = .int .i64 0 ∧ wr = w) (fun _ _ => 0)
    case atStart => exact ⟨rfl, rfl⟩
    case round =>
      obtain ⟨rfl, rfl⟩ := hrel
      go_wp2_with fail
      go_ret
      exact ⟨rfl, Ext.refl _⟩
  · have h1 : decide (n = 0) = false := by simpa using h0
    have h2 : ((n : Int) == 0) = false := by rw [beq_eq_false_iff_ne]; omega
    have h3 : ((n : Int) != 0) = true := by rw [bne_iff_ne]; omega
    go_enter Tryz.func242, Tryz.ntmps242
    go_wp2_with fail
    go_ret
    exact ⟨by rw [h1]; rfl, Ext.refl _⟩
theorem same0_any (w : World) (A : Option Addr) (n c : Nat) (hm : n ≤ 9223372036854775807) :
    Calls Tryz.prog 235 #[.slice A n c, .slice none 0 0] w fun e w' => e = .returned (.bool (decide (n = 0))) ∧ Ext w w' := by
  go_enter Tryz.func235, Tryz.ntmps235
  go_wp2_with ((with_reducible refine (eq0_any _ A n c hm).mono ?_); rintro e w1 ⟨rfl, h1⟩)
  go_ret
  exact ⟨rfl, h1⟩
/-- are they one, the second without properties? -/
def sameB (x y : Rec) : Bool :=
  x.kind == y.kind && x.name.toList == y.name.toList && x.frm == y.frm && x.guid == y.guid && x.index == y.index && x.count == y.count && x.data.toList == y.data.toList &&
    (x.s0 == y.s0 && x.s1 == y.s1 && x.s2 == y.s2 && x.s3 == y.s3) && decide (x.on = 0)
set_option maxHeartbeats 1000000 in
theorem recsame_any (w : World) (x y : Rec) (hm : x.on ≤ 9223372036854775807) (h0 : y.oA = none) (h1 : y.on = 0) (h2 : y.oc = 0) :
    Calls Tryz.prog 220 #[.agg x.cells.toArray, .agg y.cells.toArray] w fun e w' => e = .returned (.bool (sameB x y)) ∧ Ext w w' := by
  obtain ⟨k, n, f, g, oA, on, oc, own, i, c, d, s0, s1, s2, s3⟩ := x
  obtain ⟨k', n', f', g', oA', on', oc', own', i', c', d', s0', s1', s2', s3'⟩ := y
  simp only at h0 h1 h2 hm
  subst h0 h1 h2
  have HS := Lib.hid (show sameB ⟨k, n, f, g, oA, on, oc, own, i, c, d, s0, s1, s2, s3⟩ ⟨k', n', f', g', none, 0, 0, own', i', c', d', s0', s1', s2', s3'⟩ =
    (k == k' && n.toList == n'.toList && f == f' && g == g' && i == i' && c == c' && d.toList == d'.toList && (s0 == s0' && s1 == s1' && s2 == s2' && s3 == s3') && decide (on = 0)) from rfl)
  generalize sameB _ _ = b at HS
  simp only [Rec.cells]
  go_enter Tryz.func220, Tryz.ntmps220
  go_wp2_with ((with_reducible refine (same0_any _ oA on oc hm).mono ?_); rintro e w1 ⟨rfl, e1⟩)
  all_goals (go_ret; exact ⟨by rw [HS.out]; (first | (simp [*]; done) | trace_state), by (repeat (first | exact Below.refl _ _ | exact Ext.refl _ | assumption | refine Below.drew ?_ | refine below_drewN ?_ _ | refine below_alloc ?_ (by first | exact Nat.le_refl _ | assumption | (simp; done) | omega | (simp; omega)) _ | refine below_ext ?_ (by assumption) (by first | exact Nat.le_refl _ | assumption | (simp; done) | omega | (simp; omega)) | refine Ext.drew ?_ | refine Ext.drewN ?_ _ | refine Ext.alloc ?_ _ | refine Ext.setCell ?_ (by first | assumption | (simp; done) | (simp; omega)) _ | refine Below.setCell ?_ (by first | assumption | (simp; done) | (simp; omega)) _ | refine Ext.trans ?_ (by assumption)))⟩)
end Go.Proofs.YtckaneapjpiocaaGreatDoor
