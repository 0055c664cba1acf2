/- order.Whole. -/
import Derived.Test.YtmbnmggpnbapbaaStep
namespace Go.Proofs.Ytmbnmggpnbapbaa
open Go.RowKit

def recs (xs : List Rec) : List Value := xs.flatMap Rec.cells
theorem recs_cons (x : Rec) (xs : List Rec) : recs (x :: xs) = x.cells ++ recs xs := by simp [recs]
theorem recs_length (xs : List Rec) : (recs xs).length = xs.length * 12 := by
  induction xs with
  | nil => rfl
  | cons x xs ih => rw [recs_cons, List.length_append, ih]; simp [Rec.cells]; omega
theorem recs_get (xs : List Rec) (k j : Nat) (hj : j < 12) (hk : k < xs.length) : (recs xs)[k * 12 + j]? = xs[k].cells[j]? := by
  induction xs generalizing k with
  | nil => simp at hk
  | cons x xs ih =>
    rw [recs_cons]
    cases k with
    | zero => rw [List.getElem?_append_left (by simp [Rec.cells]; omega)]; simp
    | succ k =>
      rw [List.getElem?_append_right (by simp [Rec.cells]; omega)]
      have : (k + 1) * 12 + j - x.cells.length = k * 12 + j := by simp [Rec.cells]; omega
      rw [this, ih k (by simpa using hk)]
      simp
theorem rd_rec {w : World} {lo hi : Nat} {A : Option Addr} {xs : List Rec} (h : Rd w lo hi A (recs xs)) {k : Nat} (hk : k < xs.length) :
    ∃ b o, A = some ⟨b, o, none⟩ ∧ lo ≤ b ∧ b < hi ∧ ∀ j u, xs[k].cells[j]? = some u → w.cell? ⟨b, o + k * 12 + j, none⟩ = some u := by
  obtain ⟨b, o, h1, h2, h3, h4⟩ := h (fun e => by have := recs_length xs; rw [e] at this; simp at this; omega)
  refine ⟨b, o, h1, h2, h3, fun j u hu => ?_⟩
  have hj : j < 12 := by
    have := (List.getElem?_eq_some_iff.1 hu).1
    simpa [Rec.cells] using this
  rw [Nat.add_assoc]
  exact h4 _ u (by rw [recs_get xs k j hj hk]; exact hu)
/-- all steps, one by one -/
def runS : List Rec → Int → Int → Option Int
  | [], s, _ => some s
  | x :: xs, s, n => if (stepR s n x).err = 0 then runS xs (stepR s n x).seen (stepR s n x).next else none
def wholeB (xs : List Rec) : Bool := runS xs 0 0 == some 2
theorem runS_cons (x : Rec) (xs : List Rec) (s n : Int) : runS (x :: xs) s n = if (stepR s n x).err = 0 then runS xs (stepR s n x).seen (stepR s n x).next else none := rfl
theorem stepR_in {s n : Int} {x : Rec} (h : (stepR s n x).err = 0) : (0 ≤ (stepR s n x).seen ∧ (stepR s n x).seen ≤ 2) ∧ 0 ≤ (stepR s n x).next ∧ (stepR s n x).next ≤ 1024 := by
  unfold stepR at h ⊢
  by_cases h1 : badS s n = true
  · rw [if_pos h1] at h; simp at h
  · rw [if_neg h1] at h ⊢
    by_cases h2 : recE x ≠ 0
    · rw [if_pos h2] at h; exact absurd h h2
    · rw [if_neg h2] at h ⊢
      have h2' : recE x = 0 := by simpa using h2
      by_cases h3 : aftB s n x = true
      · rw [if_pos h3]
        simp only [badS, Bool.or_eq_true, decide_eq_true_eq] at h1
        obtain ⟨hk, _⟩ := rec_ok h2'
        show (0 ≤ aftS x ∧ aftS x ≤ 2) ∧ 0 ≤ aftN n x ∧ aftN n x ≤ 1024
        unfold aftS aftN
        refine ⟨by split <;> omega, ?_⟩
        by_cases k1 : x.kind = 1
        · rw [if_pos k1]; omega
        · rw [if_neg k1]
          by_cases k2 : x.kind = 2
          · have := rec_ind h2' (.inl k2); rw [if_pos k2]; omega
          · rw [if_neg k2]
            by_cases k3 : x.kind = 3
            · have := rec_ind h2' (.inr k3); have := rec_cnt h2' k3; rw [if_pos k3]; omega
            · rw [if_neg k3]; omega
      · rw [if_neg h3] at h; simp at h
set_option maxRecDepth 100000 in
set_option maxHeartbeats 2000000 in
theorem whole_any (w : World) (A : Option Addr) (n c : Nat) (xs : List Rec) (hn : n = xs.length) (hm : n ≤ 9223372036854775807) (hr : Rd w 0 w.heap.size A (recs xs)) (hin : ∀ x ∈ xs, x.wf ∧ Rd w 0 w.heap.size x.oA (prps x.own)) :
    Calls Try.prog 6 #[.slice A n c] w fun e w' => e = .returned (.bool (wholeB xs)) ∧ Ext w w' := by
  have Hn := Lib.hid hn
  have HI := Lib.hid hin
  have HW := Lib.hid (show wholeB xs = (runS xs 0 0 == some 2) from rfl)
  generalize wholeB xs = vb at *
  clear hn hin
  go_enter Try.func6, Try.ntmps6
  go_wp2_with fail
  go_loopw [9] (fun i wr => ∃ (k : Nat) (s nx : Int), k ≤ n ∧ i = .int .i64 k ∧ 0 ≤ s ∧ s ≤ 2 ∧ 0 ≤ nx ∧ nx ≤ 1024 ∧ Hid (runS xs 0 0 = runS (xs.drop k) s nx) ∧ wr.cell? ⟨w.heap.size, 0, none⟩ = some (.int .i64 s) ∧ wr.cell? ⟨w.heap.size, 1, none⟩ = some (.int .i64 nx) ∧
      wr.frozen? ⟨w.heap.size, 0, none⟩ = false ∧ wr.frozen? ⟨w.heap.size, 1, none⟩ = false ∧ Ext w wr ∧ w.heap.size < wr.heap.size) (fun i _ => n - (intOf i).toNat)
  case atStart => exact ⟨0, 0, 0, Nat.zero_le _, rfl, by omega, by omega, by omega, by omega, Lib.hid rfl, by go_simp, by go_simp, by go_simp, by go_simp, by (repeat (first | exact Below.refl _ _ | exact Ext.refl _ | assumption | refine Below.drew ?_ | refine below_drewN ?_ _ | refine below_alloc ?_ (by first | exact Nat.le_refl _ | assumption | (simp; done) | omega | (simp; omega)) _ | refine below_ext ?_ (by assumption) (by first | exact Nat.le_refl _ | assumption | (simp; done) | omega | (simp; omega)) | refine Ext.drew ?_ | refine Ext.drewN ?_ _ | refine Ext.alloc ?_ _ | refine Ext.setCell ?_ (by first | assumption | (simp; done) | (simp; omega)) _ | refine Below.setCell ?_ (by first | assumption | (simp; done) | (simp; omega)) _ | refine Ext.trans ?_ (by assumption))), by simp⟩
  case round =>
    obtain ⟨k, s, nx, hk, rfl, s0, s1, x0, x1, HR, c0, c1, f0, f1, e1, z1⟩ := hrel
    by_cases hlt : k < n
    · have hl : k < xs.length := by rw [← Hn.out]; omega
      obtain ⟨hwf, hrd⟩ := HI.out xs[k] (List.getElem_mem _)
      obtain ⟨b1, o1, rfl, _, hb1, G⟩ := rd_rec hr hl
      have hd : Hid (runS (xs.drop k) s nx = if (stepR s nx xs[k]).err = 0 then runS (xs.drop (k + 1)) (stepR s nx xs[k]).seen (stepR s nx xs[k]).next else none) := by
        rw [Hid, List.drop_eq_getElem_cons hl, runS_cons]
      generalize xs[k] = y at *
      have HS := Lib.hid (fun w1 (e : Ext wr w1) => step_any w1 s nx y (Rd.at hrd (e1.trans e) (Nat.le_refl _)) hwf ⟨by omega, by omega⟩ ⟨by omega, by omega⟩)
      have HT := Lib.hid (stepR_in (s := s) (n := nx) (x := y))
      generalize stepR s nx y = v at *
      have G' : ∀ j u, y.cells[j]? = some u → wr.cell? ⟨b1, o1 + k * 12 + j, none⟩ = some u := fun j u hu => by rw [Below.cell e1 hb1]; exact G j u hu
      obtain ⟨kk, nm, f, g, oA, on, oc, own, i, cc, d, t0, t1, t2, t3⟩ := y
      have g0 := G' 0 _ rfl
      have g1 := G' 1 _ rfl
      have g2 := G' 2 _ rfl
      have g3 := G' 3 _ rfl
      have g4 := G' 4 _ rfl
      have g5 := G' 5 _ rfl
      have g6 := G' 6 _ rfl
      have g7 := G' 7 _ rfl
      have g8 := G' 8 _ rfl
      have g9 := G' 9 _ rfl
      have g10 := G' 10 _ rfl
      have g11 := G' 11 _ rfl
      simp only [Nat.add_zero] at g0
      clear G G' hrd hwf
      have arm : Hid (∀ w1, Ext wr w1 → w1.cell? ⟨w.heap.size, 0, none⟩ = some (.int .i64 s) ∧ w1.cell? ⟨w.heap.size, 1, none⟩ = some (.int .i64 nx) ∧ w1.frozen? ⟨w.heap.size, 0, none⟩ = false ∧ w1.frozen? ⟨w.heap.size, 1, none⟩ = false ∧ w.heap.size < w1.heap.size) :=
        Lib.hid fun w1 e => ⟨by rw [Below.cell e z1]; exact c0, by rw [Below.cell e z1]; exact c1, by rw [Below.frozen e z1]; exact f0, by rw [Below.frozen e z1]; exact f1, Nat.lt_of_lt_of_le z1 e.size⟩
      by_cases he : v.err = 0
      · have he2 : (v.err != 0) = false := by simpa using he
        have HT2 := HT.out he
        have hd2 := Lib.hid (show runS (xs.drop k) s nx = runS (xs.drop (k + 1)) v.seen v.next by rw [hd.out, if_pos he])
        obtain ⟨vs, vn, ve⟩ := v
        simp only at he he2 HT2 hd2
        subst he
        go_wp2_with (go_at_call 8; refine (HS.out _ (by (repeat (first | exact Below.refl _ _ | exact Ext.refl _ | assumption | refine Below.drew ?_ | refine below_drewN ?_ _ | refine below_alloc ?_ (by first | exact Nat.le_refl _ | assumption | (simp; done) | omega | (simp; omega)) _ | refine below_ext ?_ (by assumption) (by first | exact Nat.le_refl _ | assumption | (simp; done) | omega | (simp; omega)) | refine Ext.drew ?_ | refine Ext.drewN ?_ _ | refine Ext.alloc ?_ _ | refine Ext.setCell ?_ (by first | assumption | (simp; done) | (simp; omega)) _ | refine Below.setCell ?_ (by first | assumption | (simp; done) | (simp; omega)) _ | refine Ext.trans ?_ (by assumption))))).mono ?_; rintro e w2 ⟨rfl, e2⟩; have e3 : Ext wr w2 := (by (repeat (first | exact Below.refl _ _ | exact Ext.refl _ | assumption | refine Below.drew ?_ | refine below_drewN ?_ _ | refine below_alloc ?_ (by first | exact Nat.le_refl _ | assumption | (simp; done) | omega | (simp; omega)) _ | refine below_ext ?_ (by assumption) (by first | exact Nat.le_refl _ | assumption | (simp; done) | omega | (simp; omega)) | refine Ext.drew ?_ | refine Ext.drewN ?_ _ | refine Ext.alloc ?_ _ | refine Ext.setCell ?_ (by first | assumption | (simp; done) | (simp; omega)) _ | refine Below.setCell ?_ (by first | assumption | (simp; done) | (simp; omega)) _ | refine Ext.trans ?_ (by assumption)))); obtain ⟨p0, p1, p2, p3, p4⟩ := arm.out w2 e3)
        go_roundw
        case rel =>
          obtain ⟨⟨t4, t5⟩, t6, t7⟩   := HT2
          refine ⟨k + 1, vs, vn, by omega, by go_num, t4, t5, t6, t7, Lib.hid (HR.out.trans hd2.out), by go_simp, by go_simp, by go_simp, by go_simp, by (repeat (first | exact Below.refl _ _ | exact Ext.refl _ | assumption | refine Below.drew ?_ | refine below_drewN ?_ _ | refine below_alloc ?_ (by first | exact Nat.le_refl _ | assumption | (simp; done) | omega | (simp; omega)) _ | refine below_ext ?_ (by assumption) (by first | exact Nat.le_refl _ | assumption | (simp; done) | omega | (simp; omega)) | refine Ext.drew ?_ | refine Ext.drewN ?_ _ | refine Ext.alloc ?_ _ | refine Ext.setCell ?_ (by first | assumption | (simp; done) | (simp; omega)) _ | refine Below.setCell ?_ (by first | assumption | (simp; done) | (simp; omega)) _ | refine Ext.trans ?_ (by assumption))), by simp; omega⟩
        case measure => (first | (simp [intOf]; done) | (simp [intOf]; omega))
      · have he2 : (v.err != 0) = true := by simpa using he
        have hd2 := Lib.hid (show runS (xs.drop k) s nx = none by rw [hd.out, if_neg he])
        obtain ⟨vs, vn, ve⟩ := v
        simp only at he he2 hd2
        go_wp2_with (go_at_call 8; refine (HS.out _ (by (repeat (first | exact Below.refl _ _ | exact Ext.refl _ | assumption | refine Below.drew ?_ | refine below_drewN ?_ _ | refine below_alloc ?_ (by first | exact Nat.le_refl _ | assumption | (simp; done) | omega | (simp; omega)) _ | refine below_ext ?_ (by assumption) (by first | exact Nat.le_refl _ | assumption | (simp; done) | omega | (simp; omega)) | refine Ext.drew ?_ | refine Ext.drewN ?_ _ | refine Ext.alloc ?_ _ | refine Ext.setCell ?_ (by first | assumption | (simp; done) | (simp; omega)) _ | refine Below.setCell ?_ (by first | assumption | (simp; done) | (simp; omega)) _ | refine Ext.trans ?_ (by assumption))))).mono ?_; rintro e w2 ⟨rfl, e2⟩; have e3 : Ext wr w2 := (by (repeat (first | exact Below.refl _ _ | exact Ext.refl _ | assumption | refine Below.drew ?_ | refine below_drewN ?_ _ | refine below_alloc ?_ (by first | exact Nat.le_refl _ | assumption | (simp; done) | omega | (simp; omega)) _ | refine below_ext ?_ (by assumption) (by first | exact Nat.le_refl _ | assumption | (simp; done) | omega | (simp; omega)) | refine Ext.drew ?_ | refine Ext.drewN ?_ _ | refine Ext.alloc ?_ _ | refine Ext.setCell ?_ (by first | assumption | (simp; done) | (simp; omega)) _ | refine Below.setCell ?_ (by first | assumption | (simp; done) | (simp; omega)) _ | refine Ext.trans ?_ (by assumption)))); obtain ⟨p0, p1, p2, p3, p4⟩ := arm.out w2 e3)
        go_ret
        refine ⟨retB ?_, by (repeat (first | exact Below.refl _ _ | exact Ext.refl _ | assumption | refine Below.drew ?_ | refine below_drewN ?_ _ | refine below_alloc ?_ (by first | exact Nat.le_refl _ | assumption | (simp; done) | omega | (simp; omega)) _ | refine below_ext ?_ (by assumption) (by first | exact Nat.le_refl _ | assumption | (simp; done) | omega | (simp; omega)) | refine Ext.drew ?_ | refine Ext.drewN ?_ _ | refine Ext.alloc ?_ _ | refine Ext.setCell ?_ (by first | assumption | (simp; done) | (simp; omega)) _ | refine Below.setCell ?_ (by first | assumption | (simp; done) | (simp; omega)) _ | refine Ext.trans ?_ (by assumption)))⟩
        rw [HW.out, HR.out, hd2.out]
        rfl
    · obtain rfl : k = n := by omega
      have hv : Hid (vb = (s == 2)) := by
        rw [Hid, HW.out, HR.out, List.drop_eq_nil_of_le (by rw [← Hn.out]; exact Nat.le_refl _)]
        rfl
      go_wp2_with fail
      go_ret
      exact ⟨retB (by rw [hv.out]), e1⟩
end Go.Proofs.Ytmbnmggpnbapbaa
