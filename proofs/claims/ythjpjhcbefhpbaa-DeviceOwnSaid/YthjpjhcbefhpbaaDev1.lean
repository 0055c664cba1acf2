/- slices.IndexFunc, ContainsFunc over octets and writes; device.Check. -/
import Derived.Test.YthjpjhcbefhpbaaDat
namespace Go.Proofs.Ythjpjhcbefhpbaa
open Go.RowKit
set_option linter.unusedSimpArgs false

set_option maxHeartbeats 400000 in
theorem idxo_any (w : World) (A : Option Addr) (n c : Nat) (xs : List Oct) (hn : n = xs.length) (hm : n ≤ 9223372036854775807) (hr : Rd w 0 w.heap.size A (xs.flatMap octv)) (p : Oct → Bool) (F : Value) (f : FuncId) (caps : Array Value) (hf : F = .func (.func f) #[] caps) (hcf : ∀ args w, (callFunc f args).run Try.prog w = .ok (.enter f args) w)
    (hF : ∀ x ∈ xs, ∀ w1, Ext w w1 → Calls Try.prog f (#[x.val] ++ caps) w1 fun e w' => e = .returned (.bool (p x)) ∧ Ext w1 w') :
    Calls Try.prog 28 #[.slice A n c, F] w fun e w' => ∃ r : Int, e = .returned (.int .i64 r) ∧ xs.any p = decide (0 ≤ r) ∧ -1 ≤ r ∧ Ext w w' := by
  subst hf
  have Hn := Lib.hid hn
  have HF := Lib.hid hF
  clear hn hF
  go_enter Try.func28, Try.ntmps28
  go_wp2_with fail
  go_loopw [8] (fun i wr => ∃ k : Nat, k ≤ n ∧ i = .int .i64 k ∧ Hid ((xs.take k).any p = false) ∧ Ext w wr) (fun i _ => n - (intOf i).toNat)
  case atStart => exact ⟨0, Nat.zero_le _, rfl, Lib.hid rfl, Ext.refl _⟩
  case round =>
    obtain ⟨k, hk, rfl, HK, e1⟩ := hrel
    by_cases hlt : k < n
    · have hl : k < xs.length := by rw [← Hn.out]; omega
      obtain ⟨b1, o1, rfl, _, hb1, G0⟩ := rd_flat (size := 1) (fun _ => rfl) (by omega) hr hl
      have HC := Lib.hid (HF.out xs[k] (List.getElem_mem _) wr e1)
      have hsnoc := Lib.hid (show (xs.take (k + 1)).any p = ((xs.take k).any p || p xs[k]) by rw [List.take_succ_eq_append_getElem hl, List.any_append]; simp)
      have hyes := Lib.hid (fun h : p xs[k] = true => List.any_eq_true.2 ⟨xs[k], List.getElem_mem _, h⟩)
      have G : ∀ j u, (octv xs[k])[j]? = some u → wr.cell? ⟨b1, o1 + k * 1 + j, none⟩ = some u := fun j u hu => by rw [Below.cell e1 hb1]; exact G0 j u hu
      generalize xs[k] = x at *
      have g0 := G 0 _ rfl
      simp only [Nat.add_zero, Nat.mul_one] at g0
      clear G G0
      go_wp2_with fail
      refine HC.out.mono ?_
      rintro e w2 ⟨rfl, e2⟩
      cases ho : p x
      · go_wp2_with fail
        go_roundw
        case rel =>
          exact ⟨k + 1, by omega, by go_num, Lib.hid (by rw [hsnoc.out, HK.out, ho]; rfl), by (repeat (first | exact Below.refl _ _ | exact Ext.refl _ | assumption | refine Below.drew ?_ | refine below_drewN ?_ _ | refine below_alloc ?_ (by first | exact Nat.le_refl _ | assumption | (simp; done) | omega | (simp; omega)) _ | refine below_ext ?_ (by assumption) (by first | exact Nat.le_refl _ | assumption | (simp; done) | omega | (simp; omega)) | refine Ext.drew ?_ | refine Ext.drewN ?_ _ | refine Ext.alloc ?_ _ | refine Ext.setCell ?_ (by first | assumption | (simp; done) | (simp; omega)) _ | refine Below.setCell ?_ (by first | assumption | (simp; done) | (simp; omega)) _ | refine Ext.trans ?_ (by assumption)))⟩
        case measure => simp [intOf]; omega
      · go_wp2_with fail
        go_ret
        refine ⟨k, rfl, ?_, by omega, by (repeat (first | exact Below.refl _ _ | exact Ext.refl _ | assumption | refine Below.drew ?_ | refine below_drewN ?_ _ | refine below_alloc ?_ (by first | exact Nat.le_refl _ | assumption | (simp; done) | omega | (simp; omega)) _ | refine below_ext ?_ (by assumption) (by first | exact Nat.le_refl _ | assumption | (simp; done) | omega | (simp; omega)) | refine Ext.drew ?_ | refine Ext.drewN ?_ _ | refine Ext.alloc ?_ _ | refine Ext.setCell ?_ (by first | assumption | (simp; done) | (simp; omega)) _ | refine Below.setCell ?_ (by first | assumption | (simp; done) | (simp; omega)) _ | refine Ext.trans ?_ (by assumption)))⟩
        rw [hyes.out ho]
        simp
    · go_wp2_with fail
      go_ret
      obtain rfl : k = n := by omega
      have h1 := HK.out
      rw [List.take_of_length_le (by rw [← Hn.out]; exact Nat.le_refl _)] at h1
      exact ⟨-1, rfl, by rw [h1]; rfl, by omega, e1⟩
theorem cono_any (w : World) (A : Option Addr) (n c : Nat) (xs : List Oct) (hn : n = xs.length) (hm : n ≤ 9223372036854775807) (hr : Rd w 0 w.heap.size A (xs.flatMap octv)) (p : Oct → Bool) (F : Value) (f : FuncId) (caps : Array Value) (hf : F = .func (.func f) #[] caps) (hcf : ∀ args w, (callFunc f args).run Try.prog w = .ok (.enter f args) w)
    (hF : ∀ x ∈ xs, ∀ w1, Ext w w1 → Calls Try.prog f (#[x.val] ++ caps) w1 fun e w' => e = .returned (.bool (p x)) ∧ Ext w1 w') :
    Calls Try.prog 23 #[.slice A n c, F] w fun e w' => e = .returned (.bool (xs.any p)) ∧ Ext w w' := by
  have H := Lib.hid (idxo_any w A n c xs hn hm hr p F f caps hf hcf hF)
  clear hn hF hr hm hf hcf
  go_enter Try.func23, Try.ntmps23
  go_wp2_with fail
  refine H.out.mono ?_
  rintro e w2 ⟨r, rfl, hany, hr1, e2⟩
  have HA := Lib.hid hany
  clear hany
  go_wp2_with fail
  go_ret
  exact ⟨by rw [HA.out]; rfl, e2⟩
set_option maxHeartbeats 400000 in
theorem idxw_any (w : World) (A : Option Addr) (n c : Nat) (xs : List Wrt) (hn : n = xs.length) (hm : n ≤ 9223372036854775807) (hr : Rd w 0 w.heap.size A (xs.flatMap Wrt.cells)) (p : Wrt → Bool) (F : Value) (f : FuncId) (caps : Array Value) (hf : F = .func (.func f) #[] caps) (hcf : ∀ args w, (callFunc f args).run Try.prog w = .ok (.enter f args) w)
    (hF : ∀ x ∈ xs, ∀ w1, Ext w w1 → Calls Try.prog f (#[.agg x.cells.toArray] ++ caps) w1 fun e w' => e = .returned (.bool (p x)) ∧ Ext w1 w') :
    Calls Try.prog 29 #[.slice A n c, F] w fun e w' => ∃ r : Int, e = .returned (.int .i64 r) ∧ xs.any p = decide (0 ≤ r) ∧ -1 ≤ r ∧ Ext w w' := by
  subst hf
  have Hn := Lib.hid hn
  have HF := Lib.hid hF
  clear hn hF
  go_enter Try.func29, Try.ntmps29
  go_wp2_with fail
  go_loopw [8] (fun i wr => ∃ k : Nat, k ≤ n ∧ i = .int .i64 k ∧ Hid ((xs.take k).any p = false) ∧ Ext w wr) (fun i _ => n - (intOf i).toNat)
  case atStart => exact ⟨0, Nat.zero_le _, rfl, Lib.hid rfl, Ext.refl _⟩
  case round =>
    obtain ⟨k, hk, rfl, HK, e1⟩ := hrel
    by_cases hlt : k < n
    · have hl : k < xs.length := by rw [← Hn.out]; omega
      obtain ⟨b1, o1, rfl, _, hb1, G0⟩ := rd_flat (size := 2) (fun _ => rfl) (by omega) hr hl
      have HC := Lib.hid (HF.out xs[k] (List.getElem_mem _) wr e1)
      have hsnoc := Lib.hid (show (xs.take (k + 1)).any p = ((xs.take k).any p || p xs[k]) by rw [List.take_succ_eq_append_getElem hl, List.any_append]; simp)
      have hyes := Lib.hid (fun h : p xs[k] = true => List.any_eq_true.2 ⟨xs[k], List.getElem_mem _, h⟩)
      have G : ∀ j u, (Wrt.cells xs[k])[j]? = some u → wr.cell? ⟨b1, o1 + k * 2 + j, none⟩ = some u := fun j u hu => by rw [Below.cell e1 hb1]; exact G0 j u hu
      generalize xs[k] = x at *
      have g0 := G 0 _ rfl; have g1 := G 1 _ rfl
      simp only [Nat.add_zero, Nat.mul_one] at g0
      clear G G0
      go_wp2_with fail
      refine HC.out.mono ?_
      rintro e w2 ⟨rfl, e2⟩
      cases ho : p x
      · go_wp2_with fail
        go_roundw
        case rel =>
          exact ⟨k + 1, by omega, by go_num, Lib.hid (by rw [hsnoc.out, HK.out, ho]; rfl), by (repeat (first | exact Below.refl _ _ | exact Ext.refl _ | assumption | refine Below.drew ?_ | refine below_drewN ?_ _ | refine below_alloc ?_ (by first | exact Nat.le_refl _ | assumption | (simp; done) | omega | (simp; omega)) _ | refine below_ext ?_ (by assumption) (by first | exact Nat.le_refl _ | assumption | (simp; done) | omega | (simp; omega)) | refine Ext.drew ?_ | refine Ext.drewN ?_ _ | refine Ext.alloc ?_ _ | refine Ext.setCell ?_ (by first | assumption | (simp; done) | (simp; omega)) _ | refine Below.setCell ?_ (by first | assumption | (simp; done) | (simp; omega)) _ | refine Ext.trans ?_ (by assumption)))⟩
        case measure => simp [intOf]; omega
      · go_wp2_with fail
        go_ret
        refine ⟨k, rfl, ?_, by omega, by (repeat (first | exact Below.refl _ _ | exact Ext.refl _ | assumption | refine Below.drew ?_ | refine below_drewN ?_ _ | refine below_alloc ?_ (by first | exact Nat.le_refl _ | assumption | (simp; done) | omega | (simp; omega)) _ | refine below_ext ?_ (by assumption) (by first | exact Nat.le_refl _ | assumption | (simp; done) | omega | (simp; omega)) | refine Ext.drew ?_ | refine Ext.drewN ?_ _ | refine Ext.alloc ?_ _ | refine Ext.setCell ?_ (by first | assumption | (simp; done) | (simp; omega)) _ | refine Below.setCell ?_ (by first | assumption | (simp; done) | (simp; omega)) _ | refine Ext.trans ?_ (by assumption)))⟩
        rw [hyes.out ho]
        simp
    · go_wp2_with fail
      go_ret
      obtain rfl : k = n := by omega
      have h1 := HK.out
      rw [List.take_of_length_le (by rw [← Hn.out]; exact Nat.le_refl _)] at h1
      exact ⟨-1, rfl, by rw [h1]; rfl, by omega, e1⟩
theorem conw_any (w : World) (A : Option Addr) (n c : Nat) (xs : List Wrt) (hn : n = xs.length) (hm : n ≤ 9223372036854775807) (hr : Rd w 0 w.heap.size A (xs.flatMap Wrt.cells)) (p : Wrt → Bool) (F : Value) (f : FuncId) (caps : Array Value) (hf : F = .func (.func f) #[] caps) (hcf : ∀ args w, (callFunc f args).run Try.prog w = .ok (.enter f args) w)
    (hF : ∀ x ∈ xs, ∀ w1, Ext w w1 → Calls Try.prog f (#[.agg x.cells.toArray] ++ caps) w1 fun e w' => e = .returned (.bool (p x)) ∧ Ext w1 w') :
    Calls Try.prog 25 #[.slice A n c, F] w fun e w' => e = .returned (.bool (xs.any p)) ∧ Ext w w' := by
  have H := Lib.hid (idxw_any w A n c xs hn hm hr p F f caps hf hcf hF)
  clear hn hF hr hm hf hcf
  go_enter Try.func25, Try.ntmps25
  go_wp2_with fail
  refine H.out.mono ?_
  rintro e w2 ⟨r, rfl, hany, hr1, e2⟩
  have HA := Lib.hid hany
  clear hany
  go_wp2_with fail
  go_ret
  exact ⟨by rw [HA.out]; rfl, e2⟩
def oddO (s : Oct) : Bool := s.n != 64
theorem odd_any (s : Oct) (w : World) (hm : s.n ≤ 9223372036854775807) : Calls Try.prog 24 #[s.val] w fun e w' => e = .returned (.bool (oddO s)) ∧ Ext w w' := by
  have h : Hid (oddO s = ((s.n : Int) != 64)) := Lib.hid (by rw [oddO, Bool.eq_iff_iff]; simp; omega)
  obtain ⟨A, n, c, xs⟩ := s
  simp only [Sl.val] at *
  go_enter Try.func24, Try.ntmps24
  go_wp2_with fail
  go_ret
  exact ⟨retB (by rw [h.out]), Ext.refl _⟩
def badW (n : Nat) (x : Wrt) : Bool := decide (x.pos < 0) || decide ((n : Int) ≤ x.pos) || oddO x.data
theorem chk1_any (x : Wrt) (n : Nat) (b : Nat) (w : World) (h0 : -9223372036854775808 ≤ x.pos) (h1 : x.pos ≤ 9223372036854775807) (hm : x.data.n ≤ 9223372036854775807) (hb : w.cell? ⟨b, 0, none⟩ = some (.int .i64 n)) :
    Calls Try.prog 26 #[.agg x.cells.toArray, .pointer (some ⟨b, 0, none⟩)] w fun e w' => e = .returned (.bool (badW n x)) ∧ Ext w w' := by
  have hlt : b < w.heap.size := World.block_lt_of_cell? w _ hb
  have H := Lib.hid (fun w1 => odd_any x.data w1 hm)
  have hB := Lib.hid (show badW n x = (decide (x.pos < 0) || decide ((n : Int) ≤ x.pos) || oddO x.data) from rfl)
  generalize badW n x = v at *
  generalize oddO x.data = o at *
  obtain ⟨pos, A, m, c, xs⟩ := x
  simp only [Wrt.cells, Sl.val] at *
  go_enter Try.func26, Try.ntmps26
  go_wp2_with (refine (H.out _).mono ?_; rintro e w2 ⟨rfl, e2⟩)
  all_goals (go_ret; refine ⟨retB ?_, by (repeat (first | exact Below.refl _ _ | exact Ext.refl _ | assumption | refine Below.drew ?_ | refine below_drewN ?_ _ | refine below_alloc ?_ (by first | exact Nat.le_refl _ | assumption | (simp; done) | omega | (simp; omega)) _ | refine below_ext ?_ (by assumption) (by first | exact Nat.le_refl _ | assumption | (simp; done) | omega | (simp; omega)) | refine Ext.drew ?_ | refine Ext.drewN ?_ _ | refine Ext.alloc ?_ _ | refine Ext.setCell ?_ (by first | assumption | (simp; done) | (simp; omega)) _ | refine Below.setCell ?_ (by first | assumption | (simp; done) | (simp; omega)) _ | refine Ext.trans ?_ (by assumption)))⟩; rw [hB.out]; try (first | (simp [*]; done) | (simp [*]; omega) | (cases o <;> simp [*] <;> omega)))

def chkE (d : Dev) : Int := if d.secs.n < 2 ∨ 8192 < d.secs.n ∨ d.secs.xs.any oddO = true then 9 else if d.waits.xs.any (badW d.secs.n) = true then 9 else 0
theorem call_odd : ∀ args w, (callFunc 24 args).run Try.prog w = .ok (.enter 24 args) w := callF Try.func24 (by kernel_rfl) rfl
theorem call_chk1 : ∀ args w, (callFunc 26 args).run Try.prog w = .ok (.enter 26 args) w := callF Try.func26 (by kernel_rfl) rfl
set_option maxHeartbeats 1000000 in
theorem chk_any (d : Dev) (w : World) (h : Dev.At w 0 w.heap.size d) : Calls Try.prog 15 #[.agg d.cells.toArray] w fun e w' => e = .returned (.int .i64 (chkE d)) ∧ Ext w w' := by
  have m1 : d.secs.n ≤ 9223372036854775807 := Nat.le_trans h.secs.le h.secs.cap
  have m2 : d.waits.n ≤ 9223372036854775807 := Nat.le_trans h.waits.le h.waits.cap
  have H1 := Lib.hid (fun w1 (e1 : Ext w w1) => cono_any w1 d.secs.A d.secs.n d.secs.c d.secs.xs h.secs.len m1 (Rd.at h.secs.rd e1 (Nat.le_refl _)) oddO (.func (.func 24) #[] #[]) 24 #[] rfl call_odd
    (fun x hx w2 _ => odd_any x w2 (Nat.le_trans (h.secs.all x hx).le (h.secs.all x hx).cap)))
  have H2 := Lib.hid (fun w1 b (e1 : Ext w w1) (hb : w1.cell? ⟨b, 0, none⟩ = some (.int .i64 d.secs.n)) => conw_any w1 d.waits.A d.waits.n d.waits.c d.waits.xs h.waits.len m2 (Rd.at h.waits.rd e1 (Nat.le_refl _)) (badW d.secs.n)
    (.func (.func 26) #[] #[.pointer (some ⟨b, 0, none⟩)]) 26 #[.pointer (some ⟨b, 0, none⟩)] rfl call_chk1
    (fun x hx w2 e2 => chk1_any x d.secs.n b w2 (h.waits.all x hx).p0 (h.waits.all x hx).p1 (Nat.le_trans (h.waits.all x hx).data.le (h.waits.all x hx).data.cap) ((Below.cell e2 (World.block_lt_of_cell? w1 _ hb)).trans hb)))
  have hv : Hid (chkE d = if d.secs.n < 2 ∨ 8192 < d.secs.n ∨ d.secs.xs.any oddO = true then 9 else if d.waits.xs.any (badW d.secs.n) = true then 9 else 0) := Lib.hid rfl
  clear h
  generalize chkE d = v at *
  generalize d.secs.xs.any oddO = b1 at *
  generalize d.waits.xs.any (badW d.secs.n) = b2 at *
  obtain ⟨⟨A, n, c, xs⟩, ⟨B, m, k, ys⟩⟩ := d
  simp only [Dev.cells, Sl.val] at *
  have hcase : n < 2 ∨ (2 ≤ n ∧ 8192 < n) ∨ (2 ≤ n ∧ n ≤ 8192) := by omega
  rcases hcase with q0 | ⟨q0, q1⟩ | ⟨q0, q1⟩
  · have hv2 := Lib.hid (show v = 9 by rw [hv.out, if_pos (.inl q0)])
    go_enter Try.func15, Try.ntmps15
    go_wp2_with fail
    go_ret
    exact ⟨retI hv2.out.symm, by (repeat (first | exact Below.refl _ _ | exact Ext.refl _ | assumption | refine Below.drew ?_ | refine below_drewN ?_ _ | refine below_alloc ?_ (by first | exact Nat.le_refl _ | assumption | (simp; done) | omega | (simp; omega)) _ | refine below_ext ?_ (by assumption) (by first | exact Nat.le_refl _ | assumption | (simp; done) | omega | (simp; omega)) | refine Ext.drew ?_ | refine Ext.drewN ?_ _ | refine Ext.alloc ?_ _ | refine Ext.setCell ?_ (by first | assumption | (simp; done) | (simp; omega)) _ | refine Below.setCell ?_ (by first | assumption | (simp; done) | (simp; omega)) _ | refine Ext.trans ?_ (by assumption)))⟩
  · have hv2 := Lib.hid (show v = 9 by rw [hv.out, if_pos (.inr (.inl q1))])
    go_enter Try.func15, Try.ntmps15
    go_wp2_with fail
    go_ret
    exact ⟨retI hv2.out.symm, by (repeat (first | exact Below.refl _ _ | exact Ext.refl _ | assumption | refine Below.drew ?_ | refine below_drewN ?_ _ | refine below_alloc ?_ (by first | exact Nat.le_refl _ | assumption | (simp; done) | omega | (simp; omega)) _ | refine below_ext ?_ (by assumption) (by first | exact Nat.le_refl _ | assumption | (simp; done) | omega | (simp; omega)) | refine Ext.drew ?_ | refine Ext.drewN ?_ _ | refine Ext.alloc ?_ _ | refine Ext.setCell ?_ (by first | assumption | (simp; done) | (simp; omega)) _ | refine Below.setCell ?_ (by first | assumption | (simp; done) | (simp; omega)) _ | refine Ext.trans ?_ (by assumption)))⟩
  · have hv2 := Lib.hid (show v = if b1 = true then 9 else if b2 = true then 9 else 0 by
      rw [hv.out]
      cases b1
      · rw [if_neg (by simp; omega)]; rfl
      · rw [if_pos (.inr (.inr rfl))]; rfl)
    go_enter Try.func15, Try.ntmps15
    go_wp2_with (first
      | (go_at_call 23; refine (H1.out _ (by (repeat (first | exact Below.refl _ _ | exact Ext.refl _ | assumption | refine Below.drew ?_ | refine below_drewN ?_ _ | refine below_alloc ?_ (by first | exact Nat.le_refl _ | assumption | (simp; done) | omega | (simp; omega)) _ | refine below_ext ?_ (by assumption) (by first | exact Nat.le_refl _ | assumption | (simp; done) | omega | (simp; omega)) | refine Ext.drew ?_ | refine Ext.drewN ?_ _ | refine Ext.alloc ?_ _ | refine Ext.setCell ?_ (by first | assumption | (simp; done) | (simp; omega)) _ | refine Below.setCell ?_ (by first | assumption | (simp; done) | (simp; omega)) _ | refine Ext.trans ?_ (by assumption))))).mono ?_; rintro e w2 ⟨rfl, e2⟩; obtain ⟨p1, p2⟩ := bcell e2; have z2 : w.heap.size + 1 < w2.heap.size := (by have := e2.size; simp at this; omega))
      | (go_at_call 25; refine (H2.out _ _ (by (repeat (first | exact Below.refl _ _ | exact Ext.refl _ | assumption | refine Below.drew ?_ | refine below_drewN ?_ _ | refine below_alloc ?_ (by first | exact Nat.le_refl _ | assumption | (simp; done) | omega | (simp; omega)) _ | refine below_ext ?_ (by assumption) (by first | exact Nat.le_refl _ | assumption | (simp; done) | omega | (simp; omega)) | refine Ext.drew ?_ | refine Ext.drewN ?_ _ | refine Ext.alloc ?_ _ | refine Ext.setCell ?_ (by first | assumption | (simp; done) | (simp; omega)) _ | refine Below.setCell ?_ (by first | assumption | (simp; done) | (simp; omega)) _ | refine Ext.trans ?_ (by assumption)))) (by go_simp)).mono ?_; rintro e w3 ⟨rfl, e3⟩))
    all_goals (go_ret; refine ⟨retI ?_, by (repeat (first | exact Below.refl _ _ | exact Ext.refl _ | assumption | refine Below.drew ?_ | refine below_drewN ?_ _ | refine below_alloc ?_ (by first | exact Nat.le_refl _ | assumption | (simp; done) | omega | (simp; omega)) _ | refine below_ext ?_ (by assumption) (by first | exact Nat.le_refl _ | assumption | (simp; done) | omega | (simp; omega)) | refine Ext.drew ?_ | refine Ext.drewN ?_ _ | refine Ext.alloc ?_ _ | refine Ext.setCell ?_ (by first | assumption | (simp; done) | (simp; omega)) _ | refine Below.setCell ?_ (by first | assumption | (simp; done) | (simp; omega)) _ | refine Ext.trans ?_ (by assumption)))⟩; rw [hv2.out]; (first | (simp [*]; done) | (exfalso; omega) | (cases b1 <;> cases b2 <;> (first | (simp_all; done) | (simp_all; omega)))))
end Go.Proofs.Ythjpjhcbefhpbaa
