/- device.Do, where it refuses. -/
import Derived.Test.YthjpjhcbefhpbaaDo
namespace Go.Proofs.Ythjpjhcbefhpbaa
open Go.RowKit
set_option linter.unusedSimpArgs false
set_option linter.unusedVariables false

def Faulty (n : Nat) (l : List Ac) (e : Ending) : Prop := ∃ a ∈ l, faultE n a ≠ 0 ∧ e = .returned (.tuple #[.agg #[.slice none 0 0, .slice none 0 0], .int .i64 (faultE n a)])
set_option maxRecDepth 100000 in
set_option maxHeartbeats 4000000 in
theorem do_no (d : Dev) (w : World) (h : Dev.At w 0 w.heap.size d) (A : Option Addr) (n c : Nat) (l : List Ac) (hl : Acs w A n c l) (hc : chkE d ≠ 0) :
    Calls Try.prog 11 #[.agg d.cells.toArray, .slice A n c] w fun e w' => (e = .returned (.tuple #[.agg #[.slice none 0 0, .slice none 0 0], .int .i64 (chkE d)])) ∧ Ext w w' := by
  have HC := Lib.hid (fun w1 (e : Ext w w1) => chk_any d w1 (h.on e (Nat.le_refl _)))
  have HL := Lib.hid hl
  have hn63 := hl.le
  have hsn : d.secs.n ≤ 9223372036854775807 := Nat.le_trans h.secs.le h.secs.cap
  have HFl := Lib.hid (fun w1 (a : Ac) (ha : a ∈ l) => fault_any d a w1 hsn (hl.all a ha).p0 (hl.all a ha).p1 (Nat.le_trans (hl.all a ha).data.le (hl.all a ha).data.cap))
  have Hc := Lib.hid hc
  clear h hl hc hsn
  obtain ⟨A0, n0, c0, A1, n1, c1, hcv⟩ : ∃ A0 n0 c0 A1 n1 c1, d.cells.toArray = #[.slice A0 n0 c0, .slice A1 n1 c1] := ⟨_, _, _, _, _, _, rfl⟩
  simp only [hcv] at *
  clear hcv
  go_enter Try.func11, Try.ntmps11
  go_upto_region 1 with (fail)
  generalize hw1 : World.alloc w _ = w1
  obtain ⟨e1, z1, G1⟩ := box_cells hw1
  clear hw1
  generalize hw2 : World.alloc w1 _ = w2
  obtain ⟨e2, z2, G2⟩ := box_cells hw2
  have F2 := frozen_new hw2
  clear hw2
  rw [z1] at G2 F2
  have b0 := fun w' (e : Ext w2 w') => G1 0 _ rfl w' (e2.trans e)
  have b1 := fun w' (e : Ext w2 w') => G1 1 _ rfl w' (e2.trans e)
  have r0 := G2 0 _ rfl
  have r1 := G2 1 _ rfl
  have f0 := F2 0
  have f1 := F2 1
  have Z := Lib.hid (show w2.heap.size = w.heap.size + 2 by omega)
  clear G1 G2 F2 z1 z2
  have x2 : Ext w w2 := e1.trans e2
  clear e1 e2 w1
  have y2 := Ext.refl w2
  have q0 : (chkE d != 0) = true := by simpa using Hc.out
  generalize hce : chkE d = ce at *
  have Hce := Lib.hid hce
  clear hce
  go_wp2_with (go_at_call 15; refine (HC.out _ x2).mono ?_; rintro e w3 ⟨rfl, e3⟩; have zz : w.heap.size + 1 < w3.heap.size := (by have := e3.size; have := Z.out; omega))
  refine bodyPost_ret (v := .tuple #[.agg #[.slice none 0 0, .slice none 0 0], .int .i64 ce]) (by simp [results, Try.results11, go_sem, *]) rfl ⟨by rw [Hce.out], by (repeat (first | exact Below.refl _ _ | exact Ext.refl _ | assumption | refine Below.drew ?_ | refine below_drewN ?_ _ | refine below_alloc ?_ (by first | exact Nat.le_refl _ | assumption | (simp; done) | omega | (simp; omega)) _ | refine below_ext ?_ (by assumption) (by first | exact Nat.le_refl _ | assumption | (simp; done) | omega | (simp; omega)) | refine Ext.drew ?_ | refine Ext.drewN ?_ _ | refine Ext.alloc ?_ _ | refine Ext.setCell ?_ (by first | assumption | (simp; done) | (simp; omega)) _ | refine Below.setCell ?_ (by first | assumption | (simp; done) | (simp; omega)) _ | refine Ext.trans ?_ (by assumption)))⟩
set_option maxRecDepth 100000 in
set_option maxHeartbeats 4000000 in
theorem do_fault (d : Dev) (w : World) (h : Dev.At w 0 w.heap.size d) (A : Option Addr) (n c : Nat) (l : List Ac) (hl : Acs w A n c l) (hc : chkE d = 0) (hf : ∃ a ∈ l, faultE d.secs.n a ≠ 0) :
    Calls Try.prog 11 #[.agg d.cells.toArray, .slice A n c] w fun e w' => (Faulty d.secs.n l e) ∧ Ext w w' := by
  have HC := Lib.hid (fun w1 (e : Ext w w1) => chk_any d w1 (h.on e (Nat.le_refl _)))
  have HL := Lib.hid hl
  have hn63 := hl.le
  have hsn : d.secs.n ≤ 9223372036854775807 := Nat.le_trans h.secs.le h.secs.cap
  have HFl := Lib.hid (fun w1 (a : Ac) (ha : a ∈ l) => fault_any d a w1 hsn (hl.all a ha).p0 (hl.all a ha).p1 (Nat.le_trans (hl.all a ha).data.le (hl.all a ha).data.cap))
  have Hc := Lib.hid hc
  clear h hl hc hsn
  obtain ⟨A0, n0, c0, A1, n1, c1, hcv⟩ : ∃ A0 n0 c0 A1 n1 c1, d.cells.toArray = #[.slice A0 n0 c0, .slice A1 n1 c1] := ⟨_, _, _, _, _, _, rfl⟩
  simp only [hcv] at *
  clear hcv
  go_enter Try.func11, Try.ntmps11
  go_upto_region 1 with (fail)
  generalize hw1 : World.alloc w _ = w1
  obtain ⟨e1, z1, G1⟩ := box_cells hw1
  clear hw1
  generalize hw2 : World.alloc w1 _ = w2
  obtain ⟨e2, z2, G2⟩ := box_cells hw2
  have F2 := frozen_new hw2
  clear hw2
  rw [z1] at G2 F2
  have b0 := fun w' (e : Ext w2 w') => G1 0 _ rfl w' (e2.trans e)
  have b1 := fun w' (e : Ext w2 w') => G1 1 _ rfl w' (e2.trans e)
  have r0 := G2 0 _ rfl
  have r1 := G2 1 _ rfl
  have f0 := F2 0
  have f1 := F2 1
  have Z := Lib.hid (show w2.heap.size = w.heap.size + 2 by omega)
  clear G1 G2 F2 z1 z2
  have x2 : Ext w w2 := e1.trans e2
  clear e1 e2 w1
  have y2 := Ext.refl w2
  have HF := Lib.hid hf
  clear hf
  have h0 := Hc.out
  rw [h0] at HC
  clear h0
  go_wp2_with (go_at_call 15; refine (HC.out _ x2).mono ?_; rintro e w3 ⟨rfl, e3⟩)
  go_loopw [21] (fun i wr => ∃ k : Nat, k ≤ n ∧ i = .int .i64 k ∧ Hid (∀ a ∈ l.take k, faultE d.secs.n a = 0) ∧ Ext w2 wr) (fun i _ => n - (intOf i).toNat)
  case atStart => exact ⟨0, Nat.zero_le _, rfl, Lib.hid (by simp), e3⟩
  case round =>
    obtain ⟨k, hk, rfl, HK, e4⟩ := hrel
    by_cases hlt : k < n
    · have hkl : k < l.length := by rw [← HL.out.len]; exact hlt
      obtain ⟨q1, q2, hA, _, hq1, G0⟩ := rd_flat (size := 3) (fun _ => rfl) (by omega) HL.out.rd hkl
      subst hA
      have HFa := Lib.hid (fun w1 => HFl.out w1 l[k] (List.getElem_mem _))
      have Hmem := Lib.hid (show l[k] ∈ l from List.getElem_mem _)
      have htk := Lib.hid (show l.take (k + 1) = l.take k ++ [l[k]] from List.take_succ_eq_append_getElem hkl)
      have G : ∀ j u, l[k].cells[j]? = some u → wr.cell? ⟨q1, q2 + k * 3 + j, none⟩ = some u := fun j u hu => by rw [Below.cell (x2.trans e4) hq1]; exact G0 j u hu
      clear G0
      generalize l[k] = a at *
      have hfe := Lib.hid (show faultE d.secs.n a = faultE d.secs.n a from rfl)
      generalize hfv : faultE d.secs.n a = fv at *
      have Hfv := Lib.hid hfv
      clear hfv hfe
      obtain ⟨fl, pos, ⟨aA, an, ac, ax⟩⟩ := a
      have g0 := G 0 _ rfl
      have g1 := G 1 _ rfl
      have g2 := G 2 _ rfl
      simp only [Nat.add_zero, Sl.val] at g0 g2
      clear G
      simp only [Ac.cells, Sl.val] at HFa
      have p0 : (0 : Int) ≤ k := by omega
      have p1 : (k : Int) < n := by omega
      have zz : w.heap.size < wr.heap.size := by have := e4.size; have := Z.out; omega
      have zz1 : w.heap.size + 1 < wr.heap.size := by have := e4.size; have := Z.out; omega
      by_cases hz : fv = 0
      · subst hz
        go_wp2_with (go_at_call 16; refine (HFa.out _).mono ?_; rintro e w5 ⟨rfl, e5⟩)
        go_roundw
        case rel =>
          refine ⟨k + 1, by omega, by go_num, Lib.hid fun a ha => ?_, by (repeat (first | exact Below.refl _ _ | exact Ext.refl _ | assumption | refine Below.drew ?_ | refine below_drewN ?_ _ | refine below_alloc ?_ (by first | exact Nat.le_refl _ | assumption | (simp; done) | omega | (simp; omega)) _ | refine below_ext ?_ (by assumption) (by first | exact Nat.le_refl _ | assumption | (simp; done) | omega | (simp; omega)) | refine Ext.drew ?_ | refine Ext.drewN ?_ _ | refine Ext.alloc ?_ _ | refine Ext.setCell ?_ (by first | assumption | (simp; done) | (simp; omega)) _ | refine Below.setCell ?_ (by first | assumption | (simp; done) | (simp; omega)) _ | refine Ext.trans ?_ (by assumption)))⟩
          rw [htk.out] at ha
          rcases List.mem_append.1 ha with h' | h'
          · exact HK.out a h'
          · simp only [List.mem_singleton] at h'; subst h'; exact Hfv.out
        case measure => simp [intOf]; omega
      · have q0 : (fv != 0) = true := by simpa using hz
        have Hz := Lib.hid hz
        clear hz
        go_wp2_with (go_at_call 16; refine (HFa.out _).mono ?_; rintro e w5 ⟨rfl, e5⟩; have x5 : Ext w2 w5 := (by (repeat (first | exact Below.refl _ _ | exact Ext.refl _ | assumption | refine Below.drew ?_ | refine below_drewN ?_ _ | refine below_alloc ?_ (by first | exact Nat.le_refl _ | assumption | (simp; done) | omega | (simp; omega)) _ | refine below_ext ?_ (by assumption) (by first | exact Nat.le_refl _ | assumption | (simp; done) | omega | (simp; omega)) | refine Ext.drew ?_ | refine Ext.drewN ?_ _ | refine Ext.alloc ?_ _ | refine Ext.setCell ?_ (by first | assumption | (simp; done) | (simp; omega)) _ | refine Below.setCell ?_ (by first | assumption | (simp; done) | (simp; omega)) _ | refine Ext.trans ?_ (by assumption)))); have z5 : w.heap.size + 1 < w5.heap.size := (by have := x5.size; have := Z.out; omega))
        refine bodyPost_ret (v := .tuple #[.agg #[.slice none 0 0, .slice none 0 0], .int .i64 fv]) (by simp [results, Try.results11, go_sem, *]) rfl ⟨⟨_, Hmem.out, by rw [Hfv.out]; exact Hz.out, by rw [Hfv.out]⟩, by (repeat (first | exact Below.refl _ _ | exact Ext.refl _ | assumption | refine Below.drew ?_ | refine below_drewN ?_ _ | refine below_alloc ?_ (by first | exact Nat.le_refl _ | assumption | (simp; done) | omega | (simp; omega)) _ | refine below_ext ?_ (by assumption) (by first | exact Nat.le_refl _ | assumption | (simp; done) | omega | (simp; omega)) | refine Ext.drew ?_ | refine Ext.drewN ?_ _ | refine Ext.alloc ?_ _ | refine Ext.setCell ?_ (by first | assumption | (simp; done) | (simp; omega)) _ | refine Below.setCell ?_ (by first | assumption | (simp; done) | (simp; omega)) _ | refine Ext.trans ?_ (by assumption)))⟩
    · exfalso
      obtain rfl : k = n := by omega
      obtain ⟨a, ha, hne⟩ := HF.out
      refine hne (HK.out a ?_)
      rw [List.take_of_length_le (by rw [← HL.out.len]; exact Nat.le_refl _)]
      exact ha
end Go.Proofs.Ythjpjhcbefhpbaa
