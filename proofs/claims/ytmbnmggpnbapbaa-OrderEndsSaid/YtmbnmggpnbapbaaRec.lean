/- api.Record as cells; record.Same against a record without properties. -/
import Derived.Test.YtmbnmggpnbapbaaPrp
namespace Go.Proofs.Ytmbnmggpnbapbaa
open Go.RowKit

structure Rec where
  kind : Int
  name : ByteArray
  frm : Int
  guid : Int
  oA : Option Addr
  on : Nat
  oc : Nat
  own : List Prp
  index : Int
  count : Int
  data : ByteArray
  s0 : Int
  s1 : Int
  s2 : Int
  s3 : Int
def Rec.cells (x : Rec) : List Value := [.int .i64 x.kind, .string x.name, .int .i64 x.frm, .int .i64 x.guid, .slice x.oA x.on x.oc, .int .i64 x.index, .int .i64 x.count, .string x.data, .int .u64 x.s0, .int .u64 x.s1, .int .u64 x.s2, .int .u64 x.s3]

theorem eq0_any (w : World) (A : Option Addr) (n c : Nat) (hm : n ≤ 9223372036854775807) :
    Calls Try.prog 28 #[.slice A n c, .slice none 0 0] w fun e w' => e = .returned (.bool (decide (n = 0))) ∧ Ext w w' := by
  by_cases h0 : n = 0
  · subst h0
    go_enter Try.func28, Try.ntmps28
    go_wp2_with fail
    go_loopw [13] (fun i wr => i = .int .i64 0 ∧ wr = w) (fun _ _ => 0)
    case atStart => exact ⟨rfl, rfl⟩
    case round =>
      obtain ⟨rfl, rfl⟩ := hrel
      go_wp2_with fail
      go_ret
      exact ⟨rfl, Ext.refl _⟩
  · have h1 : decide (n = 0) = false := by simpa using h0
    have h2 : ((n : Int) == 0) = false := by rw [beq_eq_false_iff_ne]; omega
    have h3 : ((n : Int) != 0) = true := by rw [bne_iff_ne]; omega
    go_enter Try.func28, Try.ntmps28
    go_wp2_with fail
    go_ret
    exact ⟨by rw [h1]; rfl, Ext.refl _⟩
theorem same0_any (w : World) (A : Option Addr) (n c : Nat) (hm : n ≤ 9223372036854775807) :
    Calls Try.prog 25 #[.slice A n c, .slice none 0 0] w fun e w' => e = .returned (.bool (decide (n = 0))) ∧ Ext w w' := by
  go_enter Try.func25, Try.ntmps25
  go_wp2_with ((with_reducible refine (eq0_any _ A n c hm).mono ?_); rintro e w1 ⟨rfl, h1⟩)
  go_ret
  exact ⟨rfl, h1⟩
/-- are they one, the second without properties? -/
def sameB (x y : Rec) : Bool :=
  x.kind == y.kind && x.name.toList == y.name.toList && x.frm == y.frm && x.guid == y.guid && x.index == y.index && x.count == y.count && x.data.toList == y.data.toList &&
    (x.s0 == y.s0 && x.s1 == y.s1 && x.s2 == y.s2 && x.s3 == y.s3) && decide (x.on = 0)
set_option maxHeartbeats 1000000 in
theorem recsame_any (w : World) (x y : Rec) (hm : x.on ≤ 9223372036854775807) (h0 : y.oA = none) (h1 : y.on = 0) (h2 : y.oc = 0) :
    Calls Try.prog 21 #[.agg x.cells.toArray, .agg y.cells.toArray] w fun e w' => e = .returned (.bool (sameB x y)) ∧ Ext w w' := by
  obtain ⟨k, n, f, g, oA, on, oc, own, i, c, d, s0, s1, s2, s3⟩ := x
  obtain ⟨k', n', f', g', oA', on', oc', own', i', c', d', s0', s1', s2', s3'⟩ := y
  simp only at h0 h1 h2 hm
  subst h0 h1 h2
  have HS := Lib.hid (show sameB ⟨k, n, f, g, oA, on, oc, own, i, c, d, s0, s1, s2, s3⟩ ⟨k', n', f', g', none, 0, 0, own', i', c', d', s0', s1', s2', s3'⟩ =
    (k == k' && n.toList == n'.toList && f == f' && g == g' && i == i' && c == c' && d.toList == d'.toList && (s0 == s0' && s1 == s1' && s2 == s2' && s3 == s3') && decide (on = 0)) from rfl)
  generalize sameB _ _ = b at HS
  simp only [Rec.cells]
  go_enter Try.func21, Try.ntmps21
  go_wp2_with ((with_reducible refine (same0_any _ oA on oc hm).mono ?_); rintro e w1 ⟨rfl, e1⟩)
  all_goals (go_ret; exact ⟨by rw [HS.out]; (first | (simp [*]; done) | trace_state), by (repeat (first | exact Below.refl _ _ | exact Ext.refl _ | assumption | refine Below.drew ?_ | refine below_drewN ?_ _ | refine below_alloc ?_ (by first | exact Nat.le_refl _ | assumption | (simp; done) | omega | (simp; omega)) _ | refine below_ext ?_ (by assumption) (by first | exact Nat.le_refl _ | assumption | (simp; done) | omega | (simp; omega)) | refine Ext.drew ?_ | refine Ext.drewN ?_ _ | refine Ext.alloc ?_ _ | refine Ext.setCell ?_ (by first | assumption | (simp; done) | (simp; omega)) _ | refine Below.setCell ?_ (by first | assumption | (simp; done) | (simp; omega)) _ | refine Ext.trans ?_ (by assumption)))⟩)
end Go.Proofs.Ytmbnmggpnbapbaa
