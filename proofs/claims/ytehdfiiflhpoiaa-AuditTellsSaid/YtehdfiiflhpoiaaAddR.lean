/- The walk of the reference's Add. -/
import Derived.Test.YtehdfiiflhpoiaaA1
namespace Go.Proofs.Ytehdfiiflhpoiaa
open Go.RowKit

/-- the last sixteen of n + 1 entries 'all' -/
def AddRef (w : World) (n : Nat) (all : List Value) (e : Ending) (w' : World) : Prop :=
  ∃ A m c, e = .returned (.slice A m c) ∧ m = min (n + 1) 16 ∧ Rd w' 0 w'.heap.size A (all.drop ((n + 1 - m) * 4)) ∧ Ext w w'

set_option maxHeartbeats 1000000 in
theorem addr_any (w : World) (A : Option Addr) (n c : Nat) (cs : List Value) (u p : ByteArray) (k e : Int) (hl : cs.length = n * 4) (hr : Rd w 0 w.heap.size A cs) (h1 : ∀ u ∈ cs, u.oneCell' = true) (hn : (n + 1) * 48 ≤ 140737488355328) :
    Calls Try.prog 9 #[.slice A n c, .agg #[.string u, .int .i64 k, .string p, .int .i64 e]] w (AddRef w n (cs ++ [.string u, .int .i64 k, .string p, .int .i64 e])) := by
  obtain ⟨i0, hi0, hz0, hz1, hz2⟩ := info_parts info25
  have hmx : n + 1 ≤ maxLen := by simp only [maxLen]; omega
  go_enter Try.func9, Try.ntmps9
  go_wp2_with fail
  generalize hw1 : World.alloc w _ = w1; obtain ⟨ew1, zw1, Gw1⟩ := box_cells hw1; have gw1_0 := Gw1 0 _ rfl; have gw1_1 := Gw1 1 _ rfl; have gw1_2 := Gw1 2 _ rfl; have gw1_3 := Gw1 3 _ rfl; have Zw1 := Lib.hid zw1; clear zw1 hw1 Gw1
  go_region_held3 (fun w' => Ext w1 w') (first | (repeat (first | exact Below.refl _ _ | exact Ext.refl _ | assumption | refine Below.drew ?_ | refine below_drewN ?_ _ | refine below_alloc ?_ (by first | exact Nat.le_refl _ | assumption | (simp; done) | omega | (simp; omega)) _ | refine below_ext ?_ (by assumption) (by first | exact Nat.le_refl _ | assumption | (simp; done) | omega | (simp; omega)) | refine Ext.drew ?_ | refine Ext.drewN ?_ _ | refine Ext.alloc ?_ _ | refine Ext.setCell ?_ (by first | assumption | (simp; done) | (simp; omega)) _ | refine Below.setCell ?_ (by first | assumption | (simp; done) | (simp; omega)) _ | refine Ext.trans ?_ (by assumption))) | (trace_state; fail))
    (first
      | (refine step_app0 _ rfl (.tmp 6) (.tmp 7) _ rfl 25 i0 _ 4 48 Try.underlying22 hi0 hz0 hz1 hz2 rfl (by omega) rfl 0 _ A n c cs rfl hl (hr.at (by (repeat (first | exact Below.refl _ _ | exact Ext.refl _ | assumption | refine Below.drew ?_ | refine below_drewN ?_ _ | refine below_alloc ?_ (by first | exact Nat.le_refl _ | assumption | (simp; done) | omega | (simp; omega)) _ | refine below_ext ?_ (by assumption) (by first | exact Nat.le_refl _ | assumption | (simp; done) | omega | (simp; omega)) | refine Ext.drew ?_ | refine Ext.drewN ?_ _ | refine Ext.alloc ?_ _ | refine Ext.setCell ?_ (by first | assumption | (simp; done) | (simp; omega)) _ | refine Below.setCell ?_ (by first | assumption | (simp; done) | (simp; omega)) _ | refine Ext.trans ?_ (by assumption)))) (Nat.le_refl _)) h1 (by omega) (by omega) ?_
         intro v2 w2 hown2 e2)
      | (refine step_app _ rfl (.tmp 8) (.tmp 10) _ rfl 25 i0 _ 4 48 Try.underlying22 hi0 hz0 hz1 hz2 rfl (by omega) _ v2 n cs rfl (by first | exact hown2 | exact hown2.alloc _)
           0 _ _ 1 1 [.string u, .int .i64 k, .string p, .int .i64 e] rfl rfl (by first | exact (rd_new _ _ _).more (Nat.zero_le _) (Nat.le_refl _) | exact ((rd_new _ _ _).drew.ext e2 (by simp)).more (Nat.zero_le _) (Nat.le_refl _)) (by simp [Value.oneCell']) hmx hn (Ext.size (by (repeat (first | exact Below.refl _ _ | exact Ext.refl _ | assumption | refine Below.drew ?_ | refine below_drewN ?_ _ | refine below_alloc ?_ (by first | exact Nat.le_refl _ | assumption | (simp; done) | omega | (simp; omega)) _ | refine below_ext ?_ (by assumption) (by first | exact Nat.le_refl _ | assumption | (simp; done) | omega | (simp; omega)) | refine Ext.drew ?_ | refine Ext.drewN ?_ _ | refine Ext.alloc ?_ _ | refine Ext.setCell ?_ (by first | assumption | (simp; done) | (simp; omega)) _ | refine Below.setCell ?_ (by first | assumption | (simp; done) | (simp; omega)) _ | refine Ext.trans ?_ (by assumption))))) ?_
         intro v3 w3 hown3 he3 _ _
         have e3 : Ext w1 w3 := he3 _ (by (repeat (first | exact Below.refl _ _ | exact Ext.refl _ | assumption | refine Below.drew ?_ | refine below_drewN ?_ _ | refine below_alloc ?_ (by first | exact Nat.le_refl _ | assumption | (simp; done) | omega | (simp; omega)) _ | refine below_ext ?_ (by assumption) (by first | exact Nat.le_refl _ | assumption | (simp; done) | omega | (simp; omega)) | refine Ext.drew ?_ | refine Ext.drewN ?_ _ | refine Ext.alloc ?_ _ | refine Ext.setCell ?_ (by first | assumption | (simp; done) | (simp; omega)) _ | refine Below.setCell ?_ (by first | assumption | (simp; done) | (simp; omega)) _ | refine Ext.trans ?_ (by assumption)))) (Ext.size (by (repeat (first | exact Below.refl _ _ | exact Ext.refl _ | assumption | refine Below.drew ?_ | refine below_drewN ?_ _ | refine below_alloc ?_ (by first | exact Nat.le_refl _ | assumption | (simp; done) | omega | (simp; omega)) _ | refine below_ext ?_ (by assumption) (by first | exact Nat.le_refl _ | assumption | (simp; done) | omega | (simp; omega)) | refine Ext.drew ?_ | refine Ext.drewN ?_ _ | refine Ext.alloc ?_ _ | refine Ext.setCell ?_ (by first | assumption | (simp; done) | (simp; omega)) _ | refine Below.setCell ?_ (by first | assumption | (simp; done) | (simp; omega)) _ | refine Ext.trans ?_ (by assumption)))))
         clear he3))
  all_goals (
    obtain ⟨A3, c3, rfl, hc3, hm3, hA3⟩ := own_form hown3
    have hrd := (Rd.of_own hown3).more (Nat.zero_le _) (Nat.le_refl _)
    clear hown3 hown2 e2
    generalize cs ++ [Value.string u, Value.int IntKind.i64 k, Value.string p, Value.int IntKind.i64 e] = all at *
    simp only [maxLen] at hm3
    go_wp2_with fail
    go_loop [5] (fun v => ∃ j A' c', j ≤ n + 1 ∧ v = .slice A' (n + 1 - j) c' ∧ n + 1 - j ≤ c' ∧ c' ≤ 9223372036854775807 ∧ (j = 0 ∨ 16 ≤ n + 1 - j) ∧ Rd w3 0 w3.heap.size A' (all.drop (j * 4))) (fun v => slen v)
    case atStart => exact ⟨0, A3, c3, Nat.zero_le _, rfl, hc3, hm3, .inl rfl, by simpa using hrd⟩
    case round =>
      obtain ⟨j, A', c', hj, rfl, hc', hm', hor, hrd'⟩ := hrel
      by_cases hlt : 16 < n + 1 - j
      · have hcc : ¬ c' = 1 := by omega
        go_wp2_with fail
        refine ⟨⟨j + 1, _, c' - 1, by omega, by rw [show n + 1 - j - 1 = n + 1 - (j + 1) from by omega], by omega, by omega, .inr (by omega), ?_⟩, ?_⟩
        · have := hrd'.shift 4
          rw [List.drop_drop] at this
          rw [show (j + 1) * 4 = j * 4 + 4 from by omega]
          exact this
        · simp only [slen]
          omega
      · go_wp2_with fail
        go_ret
        exact ⟨A', n + 1 - j, c', rfl, by omega, by rw [show n + 1 - (n + 1 - j) = j from by omega]; exact hrd', by (repeat (first | exact Below.refl _ _ | exact Ext.refl _ | assumption | refine Below.drew ?_ | refine below_drewN ?_ _ | refine below_alloc ?_ (by first | exact Nat.le_refl _ | assumption | (simp; done) | omega | (simp; omega)) _ | refine below_ext ?_ (by assumption) (by first | exact Nat.le_refl _ | assumption | (simp; done) | omega | (simp; omega)) | refine Ext.drew ?_ | refine Ext.drewN ?_ _ | refine Ext.alloc ?_ _ | refine Ext.setCell ?_ (by first | assumption | (simp; done) | (simp; omega)) _ | refine Below.setCell ?_ (by first | assumption | (simp; done) | (simp; omega)) _ | refine Ext.trans ?_ (by assumption)))⟩)
end Go.Proofs.Ytehdfiiflhpoiaa
