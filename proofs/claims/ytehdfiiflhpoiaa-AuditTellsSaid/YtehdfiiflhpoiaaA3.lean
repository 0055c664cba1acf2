/- The walks of SameLog and AuditOwn. -/
import Derived.Test.YtehdfiiflhpoiaaA2
namespace Go.Proofs.Ytehdfiiflhpoiaa
open Go.RowKit

set_option maxHeartbeats 400000 in
theorem samelog_any (w : World) (A B : Option Addr) (n c d lo hi lo' hi' : Nat) (xs : List Ent) (hn : n = xs.length) (hb : n ≤ 9223372036854775807) (hr : Rd w lo hi A (ents xs)) (hh : hi ≤ w.heap.size) (hr' : Rd w lo' hi' B (ents xs)) (hh' : hi' ≤ w.heap.size) :
    Calls Try.prog 8 #[.slice A n c, .slice B n d] w fun e w' => e = .returned (.bool true) ∧ Ext w w' := by
  have hneq := neq25
  have hgd := guardrun25
  have Hn := Lib.hid hn
  clear hn
  go_enter Try.func8, Try.ntmps8
  go_wp2_with fail
  go_loopw [5] (fun i wr => ∃ k : Nat, k ≤ n ∧ i = .int .i64 k ∧ Ext w wr) (fun i _ => n - (intOf i).toNat)
  case atStart => exact ⟨0, Nat.zero_le _, rfl, by (repeat (first | exact Below.refl _ _ | exact Ext.refl _ | assumption | refine Below.drew ?_ | refine below_drewN ?_ _ | refine below_alloc ?_ (by first | exact Nat.le_refl _ | assumption | (simp; done) | omega | (simp; omega)) _ | refine below_ext ?_ (by assumption) (by first | exact Nat.le_refl _ | assumption | (simp; done) | omega | (simp; omega)) | refine Ext.drew ?_ | refine Ext.drewN ?_ _ | refine Ext.alloc ?_ _ | refine Ext.setCell ?_ (by first | assumption | (simp; done) | (simp; omega)) _ | refine Below.setCell ?_ (by first | assumption | (simp; done) | (simp; omega)) _ | refine Ext.trans ?_ (by assumption)))⟩
  case round =>
    obtain ⟨k, hk, rfl, e6⟩ := hrel
    by_cases hlt : k < n
    · obtain ⟨b1, o1, rfl, _, _, f0, f1, f2, f3⟩ := rd_ent (hr.ext e6 hh) (k := k) (by rw [← Hn.out]; omega)
      obtain ⟨b2, o2, rfl, _, _, d0, d1, d2, d3⟩ := rd_ent (hr'.ext e6 hh') (k := k) (by rw [← Hn.out]; omega)
      generalize xs[k]'(by rw [← Hn.out]; omega) = y at *
      have b4 : Ent.eqB ⟨y.user, y.kind, y.path, y.err⟩ ⟨y.user, y.kind, y.path, y.err⟩ = true := (Ent.eqB_iff _ _).2 rfl
      go_wp2_with fail
      go_quiet (fail)
      go_wp2_with fail
      go_roundw
      case rel => exact ⟨k + 1, by omega, by go_num, by (repeat (first | exact Below.refl _ _ | exact Ext.refl _ | assumption | refine Below.drew ?_ | refine below_drewN ?_ _ | refine below_alloc ?_ (by first | exact Nat.le_refl _ | assumption | (simp; done) | omega | (simp; omega)) _ | refine below_ext ?_ (by assumption) (by first | exact Nat.le_refl _ | assumption | (simp; done) | omega | (simp; omega)) | refine Ext.drew ?_ | refine Ext.drewN ?_ _ | refine Ext.alloc ?_ _ | refine Ext.setCell ?_ (by first | assumption | (simp; done) | (simp; omega)) _ | refine Below.setCell ?_ (by first | assumption | (simp; done) | (simp; omega)) _ | refine Ext.trans ?_ (by assumption)))⟩
      case measure => simp [intOf]; omega
    · go_wp2_with fail
      go_ret
      exact ⟨rfl, by (repeat (first | exact Below.refl _ _ | exact Ext.refl _ | assumption | refine Below.drew ?_ | refine below_drewN ?_ _ | refine below_alloc ?_ (by first | exact Nat.le_refl _ | assumption | (simp; done) | omega | (simp; omega)) _ | refine below_ext ?_ (by assumption) (by first | exact Nat.le_refl _ | assumption | (simp; done) | omega | (simp; omega)) | refine Ext.drew ?_ | refine Ext.drewN ?_ _ | refine Ext.alloc ?_ _ | refine Ext.setCell ?_ (by first | assumption | (simp; done) | (simp; omega)) _ | refine Below.setCell ?_ (by first | assumption | (simp; done) | (simp; omega)) _ | refine Ext.trans ?_ (by assumption)))⟩

set_option maxHeartbeats 400000 in
theorem own_any (w : World) (A : Option Addr) (n c : Nat) (xs : List Ent) (x : Ent) (hn : n = xs.length) (hr : Rd w 0 w.heap.size A (ents xs)) (hb : (n + 1) * 48 ≤ 140737488355328) :
    Calls Try.prog 4 #[.slice A n c, .agg #[.string x.user, .int .i64 x.kind, .string x.path, .int .i64 x.err]] w fun e w' => e = .returned (.bool true) ∧ Ext w w' := by
  obtain ⟨i0, hi0, hz0, hz1, hz2⟩ := info_parts info25
  have hl : (ents xs).length = n * 4 := by rw [ents_length, hn]
  have Hn := Lib.hid hn
  clear hn
  have hmx : n ≤ maxLen := by simp only [maxLen]; omega
  go_enter Try.func4, Try.ntmps4
  go_wp2_with fail
  generalize hw1 : World.alloc w _ = w1; obtain ⟨ew1, zw1, Gw1⟩ := box_cells hw1; have gw1_0 := Gw1 0 _ rfl; have gw1_1 := Gw1 1 _ rfl; have gw1_2 := Gw1 2 _ rfl; have gw1_3 := Gw1 3 _ rfl; have Zw1 := Lib.hid zw1; clear zw1 hw1 Gw1
  refine (alive_any _).mono ?_
  rintro e w2 ⟨rfl, e2⟩
  have e3 : Ext w1 w2 := by (repeat (first | exact Below.refl _ _ | exact Ext.refl _ | assumption | refine Below.drew ?_ | refine below_drewN ?_ _ | refine below_alloc ?_ (by first | exact Nat.le_refl _ | assumption | (simp; done) | omega | (simp; omega)) _ | refine below_ext ?_ (by assumption) (by first | exact Nat.le_refl _ | assumption | (simp; done) | omega | (simp; omega)) | refine Ext.drew ?_ | refine Ext.drewN ?_ _ | refine Ext.alloc ?_ _ | refine Ext.setCell ?_ (by first | assumption | (simp; done) | (simp; omega)) _ | refine Below.setCell ?_ (by first | assumption | (simp; done) | (simp; omega)) _ | refine Ext.trans ?_ (by assumption)))
  go_wp2_with
      (at_builtin
       refine wpList_append_any _ rfl (.tmp 10) (.tmp 11) _ rfl w2.heap.size 25 i0 _ 4 48 Try.underlying22 hi0 hz0 hz1 hz2 rfl (by omega) (.slice none 0 0) 0 [] rfl
         (World.ownsRow_nil _ _ _ _) 0 w2.heap.size A n c (ents xs) rfl hl (hr.at (by (repeat (first | exact Below.refl _ _ | exact Ext.refl _ | assumption | refine Below.drew ?_ | refine below_drewN ?_ _ | refine below_alloc ?_ (by first | exact Nat.le_refl _ | assumption | (simp; done) | omega | (simp; omega)) _ | refine below_ext ?_ (by assumption) (by first | exact Nat.le_refl _ | assumption | (simp; done) | omega | (simp; omega)) | refine Ext.drew ?_ | refine Ext.drewN ?_ _ | refine Ext.alloc ?_ _ | refine Ext.setCell ?_ (by first | assumption | (simp; done) | (simp; omega)) _ | refine Below.setCell ?_ (by first | assumption | (simp; done) | (simp; omega)) _ | refine Ext.trans ?_ (by assumption)))) (Nat.le_refl _)) (ents_one _) (by simpa using hmx) (by omega) (by simp) ?_
       intro v3 w3 hown3 hg3 hat3
       have e4 : Ext w2 w3 := ext_grown (Ext.refl _) (World.ownsRow_nil w2 w2.heap.size 25 4) hg3 (Nat.le_refl _)
       simp only [Nat.zero_add, List.nil_append] at hown3
       clear hg3 hat3
       obtain ⟨A3, c3, rfl, _, _, _⟩ := own_form hown3
       have e5 : Ext w1 w3 := by (repeat (first | exact Below.refl _ _ | exact Ext.refl _ | assumption | refine Below.drew ?_ | refine below_drewN ?_ _ | refine below_alloc ?_ (by first | exact Nat.le_refl _ | assumption | (simp; done) | omega | (simp; omega)) _ | refine below_ext ?_ (by assumption) (by first | exact Nat.le_refl _ | assumption | (simp; done) | omega | (simp; omega)) | refine Ext.drew ?_ | refine Ext.drewN ?_ _ | refine Ext.alloc ?_ _ | refine Ext.setCell ?_ (by first | assumption | (simp; done) | (simp; omega)) _ | refine Below.setCell ?_ (by first | assumption | (simp; done) | (simp; omega)) _ | refine Ext.trans ?_ (by assumption))))
  refine (add_any _ A3 n c3 (ents xs) _ _ _ _ hl ((Rd.of_own hown3).more (Nat.zero_le _) (Nat.le_refl _)) (ents_one _) hb).mono ?_
  rintro e w4 ⟨A4, m, rfl, hm, hwr, e6⟩
  have hm2 : m ≤ 16 := by omega
  have Hm := Lib.hid hm
  clear hm
  have hall : ents xs ++ [.string x.user, .int .i64 x.kind, .string x.path, .int .i64 x.err] = ents (xs ++ [x]) := by rw [ents_append]; rfl
  rw [hall, ents_drop] at hwr
  have hlen : (ents ((xs ++ [x]).drop (n + 1 - m))).length = m * 4 := by
    have h1 := Hn.out
    have h2 := Hm.out
    rw [ents_length, List.length_drop, List.length_append, ← h1]
    simp
    omega
  obtain ⟨b, o, rfl, hb1, _, _⟩ := hwr (fun e => by
    rw [e] at hlen
    have h2 := Hm.out
    simp at hlen
    omega)
  have hcan := hwr.can
  rw [hlen] at hcan
  clear hwr hall hlen
  have hin := Rd.of_own hown3
  clear hown3
  go_wp2_with fail
  go_loopw [7] (fun i wr => ∃ k : Nat, k ≤ m ∧ i = .int .i64 k ∧ Ext w3 wr ∧ Can wr b o (m * 4)) (fun i _ => m - (intOf i).toNat)
  case atStart => exact ⟨0, Nat.zero_le _, rfl, e6, hcan⟩
  case round =>
    clear hcan
    obtain ⟨k, hk, rfl, e7, hcan⟩ := hrel
    by_cases hlt : k < m
    · obtain ⟨⟨u0, c0⟩, f0⟩ := hcan (k * 4) (by omega)
      obtain ⟨⟨u1, c1⟩, f1⟩ := hcan (k * 4 + 1) (by omega)
      obtain ⟨⟨u2, c2⟩, f2⟩ := hcan (k * 4 + 2) (by omega)
      obtain ⟨⟨u3, c3⟩, f3⟩ := hcan (k * 4 + 3) (by omega)
      simp only [← Nat.add_assoc] at c1 c2 c3 f1 f2 f3
      go_wp2_with fail
      go_roundw
      case rel => exact ⟨k + 1, by omega, by go_num, by (repeat (first | exact Below.refl _ _ | exact Ext.refl _ | assumption | refine Below.drew ?_ | refine below_drewN ?_ _ | refine below_alloc ?_ (by first | exact Nat.le_refl _ | assumption | (simp; done) | omega | (simp; omega)) _ | refine below_ext ?_ (by assumption) (by first | exact Nat.le_refl _ | assumption | (simp; done) | omega | (simp; omega)) | refine Ext.drew ?_ | refine Ext.drewN ?_ _ | refine Ext.alloc ?_ _ | refine Ext.setCell ?_ (by first | assumption | (simp; done) | (simp; omega)) _ | refine Below.setCell ?_ (by first | assumption | (simp; done) | (simp; omega)) _ | refine Ext.trans ?_ (by assumption))), (((hcan.setCell _ _).setCell _ _).setCell _ _).setCell _ _⟩
      case measure => simp [intOf]; omega
    · go_wp2_with fail
      refine (samelog_any _ A3 A n c3 c _ _ _ _ xs Hn.out (by omega) (hin.ext e7 (Nat.le_refl _)) e7.size (hr.at (w' := wr) (by (repeat (first | exact Below.refl _ _ | exact Ext.refl _ | assumption | refine Below.drew ?_ | refine below_drewN ?_ _ | refine below_alloc ?_ (by first | exact Nat.le_refl _ | assumption | (simp; done) | omega | (simp; omega)) _ | refine below_ext ?_ (by assumption) (by first | exact Nat.le_refl _ | assumption | (simp; done) | omega | (simp; omega)) | refine Ext.drew ?_ | refine Ext.drewN ?_ _ | refine Ext.alloc ?_ _ | refine Ext.setCell ?_ (by first | assumption | (simp; done) | (simp; omega)) _ | refine Below.setCell ?_ (by first | assumption | (simp; done) | (simp; omega)) _ | refine Ext.trans ?_ (by assumption)))) (Nat.le_refl _)) (Nat.le_refl _)).mono ?_
      rintro e w5 ⟨rfl, e8⟩
      go_wp2_with fail
      go_ret
      exact ⟨rfl, by (repeat (first | exact Below.refl _ _ | exact Ext.refl _ | assumption | refine Below.drew ?_ | refine below_drewN ?_ _ | refine below_alloc ?_ (by first | exact Nat.le_refl _ | assumption | (simp; done) | omega | (simp; omega)) _ | refine below_ext ?_ (by assumption) (by first | exact Nat.le_refl _ | assumption | (simp; done) | omega | (simp; omega)) | refine Ext.drew ?_ | refine Ext.drewN ?_ _ | refine Ext.alloc ?_ _ | refine Ext.setCell ?_ (by first | assumption | (simp; done) | (simp; omega)) _ | refine Below.setCell ?_ (by first | assumption | (simp; done) | (simp; omega)) _ | refine Ext.trans ?_ (by assumption)))⟩
end Go.Proofs.Ytehdfiiflhpoiaa
