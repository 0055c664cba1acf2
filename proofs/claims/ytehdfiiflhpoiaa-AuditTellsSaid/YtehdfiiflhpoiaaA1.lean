/- The walks of slices.Clone and audit.Add over a log. -/
import Derived.Test.YtehdfiiflhpoiaaEnt
namespace Go.Proofs.Ytehdfiiflhpoiaa
open Go.RowKit


set_option maxHeartbeats 400000 in
theorem clone_any (w : World) (base : Nat) (hbase : base ≤ w.heap.size) (A : Option Addr) (n c : Nat) (cs : List Value) (hl : cs.length = n * 4) (hr : Rd w 0 w.heap.size A cs) (h1 : ∀ u ∈ cs, u.oneCell' = true) (hn : n * 48 ≤ 140737488355328) :
    Calls Try.prog 16 #[.slice A n c] w fun e w' => ∃ v, e = .returned v ∧ w'.ownsRow base 25 4 v n cs ∧ Ext w w' := by
  have qT : ∀ (w : World) (a : Option Addr) (n c n' c' : Nat), (binOp .eql 22 (.slice a n c) (.slice none n' c')).run Try.prog w = .ok (.bool a.isNone) w := fun w a n c n' c' => Lib.run_eql_slice_nil w _ _ a n c n' c' Try.underlying22
  obtain ⟨i0, hi0, hz0, hz1, hz2⟩ := info_parts info25
  have hmx : n ≤ maxLen := by simp only [maxLen]; omega
  cases A with
  | none =>
    have : n = 0 := by
      rcases Nat.eq_zero_or_pos n with h | h
      · exact h
      · obtain ⟨b, o, hh, _⟩ := hr (fun e => by simp [e] at hl; omega)
        cases hh
    subst this
    have : cs = [] := List.eq_nil_of_length_eq_zero (by simpa using hl)
    subst this
    go_enter Try.func16, Try.ntmps16
    go_wp2
    go_ret
    exact ⟨_, rfl, World.ownsRow_nil _ _ _ _, Ext.refl _⟩
  | some ad =>
    go_enter Try.func16, Try.ntmps16
    go_wp2_with
      (at_builtin
       refine wpList_append_any _ rfl (.tmp 5) (.tmp 6) _ rfl base 25 i0 _ 4 48 Try.underlying22 hi0 hz0 hz1 hz2 rfl (by omega) (.slice (some ⟨w.heap.size, 0, none⟩) 0 0) 0 [] rfl
         (World.ownsRow_lit w #[] 0 hbase (Nat.zero_le _) rfl) 0 w.heap.size (some ad) n c cs rfl hl (hr.alloc (Nat.le_refl _) _) h1 (by simpa using hmx) (by omega) (by simp; omega) ?_
       intro v1 w1 hown1 hg1 hat1)
    go_ret
    refine ⟨v1, rfl, by simpa using hown1, below_grown ((Below.refl _ _).alloc (Nat.le_refl _) _) hg1 (by simp) (.inr ⟨_, rfl, Nat.le_refl _⟩)⟩

/-- the last sixteen of n + 1 entries 'all', in new memory that may be written -/
def AddOk (w : World) (n : Nat) (all : List Value) (e : Ending) (w' : World) : Prop :=
  ∃ A m, e = .returned (.slice A m m) ∧ m = min (n + 1) 16 ∧ Wr w' w.heap.size w'.heap.size A (all.drop ((n + 1 - m) * 4)) ∧ Ext w w'
theorem add_ok1 {w w1 w3 : World} {n c : Nat} {all : List Value} {A : Option Addr} (hown : w3.ownsRow w1.heap.size 25 4 (.slice A (n + 1) c) (n + 1) all) (h1 : Ext w w1) (h3 : Ext w1 w3) (h : (n : Int) + 1 - 16 < 0) :
    AddOk w n all (.returned (.slice A (n + 1) (n + 1))) w3 :=
  ⟨A, n + 1, rfl, by omega, by
    have := Wr.of_own hown
    simp only [Nat.sub_self, Nat.zero_mul, List.drop_zero]
    exact fun hn => by
      obtain ⟨b, o, x1, x2, x3, x4⟩ := this hn
      exact ⟨b, o, x1, Nat.le_trans h1.size x2, x3, x4⟩, h1.trans h3⟩
theorem add_ok2 {w w1 w3 : World} {n c : Nat} {all : List Value} {A : Option Addr} (hown : w3.ownsRow w1.heap.size 25 4 (.slice A (n + 1) c) (n + 1) all) (h1 : Ext w w1) (h3 : Ext w1 w3) (h : 0 ≤ (n : Int) + 1 - 16) :
    AddOk w n all (.returned (.slice (Option.map (fun x => x.add (((n : Int) + 1 - 16).toNat * 4)) A) (n + 1 - ((n : Int) + 1 - 16).toNat) (n + 1 - ((n : Int) + 1 - 16).toNat))) w3 := by
  have hk : ((n : Int) + 1 - 16).toNat = n + 1 - 16 := by omega
  rw [hk]
  refine ⟨_, _, rfl, by omega, ?_, h1.trans h3⟩
  have := (Wr.of_own hown).drop ((n + 1 - 16) * 4)
  have e : n + 1 - (n + 1 - (n + 1 - 16)) = n + 1 - 16 := by omega
  rw [e]
  exact fun hn => by
      obtain ⟨b, o, x1, x2, x3, x4⟩ := this hn
      exact ⟨b, o, x1, Nat.le_trans h1.size x2, x3, x4⟩

set_option maxHeartbeats 400000 in
theorem add_any (w : World) (A : Option Addr) (n c : Nat) (cs : List Value) (u p : ByteArray) (k e : Int) (hl : cs.length = n * 4) (hr : Rd w 0 w.heap.size A cs) (h1 : ∀ u ∈ cs, u.oneCell' = true) (hn : (n + 1) * 48 ≤ 140737488355328) :
    Calls Try.prog 7 #[.slice A n c, .agg #[.string u, .int .i64 k, .string p, .int .i64 e]] w (AddOk w n (cs ++ [.string u, .int .i64 k, .string p, .int .i64 e])) := by
  obtain ⟨i0, hi0, hz0, hz1, hz2⟩ := info_parts info25
  have hmx : n + 1 ≤ maxLen := by simp only [maxLen]; omega
  go_enter Try.func7, Try.ntmps7
  go_wp2_with fail
  generalize hw1 : World.alloc w _ = w1
  have e1 : Ext w w1 := by rw [← hw1]; exact (Ext.refl _).alloc _
  have hz : w1.heap.size = w.heap.size + 1 := by rw [← hw1]; simp
  have G : ∀ j u', [.string u, .int .i64 k, .string p, .int .i64 e][j]? = some u' → ∀ w', Ext w1 w' → w'.cell? ⟨w.heap.size, j, none⟩ = some u' := fun j u' h w' hb => by
    rw [Below.cell hb (by simp [hz]), ← hw1]
    exact cell_new _ _ _ _ (by simpa using h)
  have g0 := G 0 _ rfl
  have g1 := G 1 _ rfl
  have g2 := G 2 _ rfl
  have g3 := G 3 _ rfl
  have HZ := Lib.hid hz
  clear hz hw1 G
  go_region_held3 (fun w' => Ext w1 w') (first | (repeat (first | exact Below.refl _ _ | exact Ext.refl _ | assumption | refine Below.drew ?_ | refine below_drewN ?_ _ | refine below_alloc ?_ (by first | exact Nat.le_refl _ | assumption | (simp; done) | omega | (simp; omega)) _ | refine below_ext ?_ (by assumption) (by first | exact Nat.le_refl _ | assumption | (simp; done) | omega | (simp; omega)) | refine Ext.drew ?_ | refine Ext.drewN ?_ _ | refine Ext.alloc ?_ _ | refine Ext.setCell ?_ (by first | assumption | (simp; done) | (simp; omega)) _ | refine Below.setCell ?_ (by first | assumption | (simp; done) | (simp; omega)) _ | refine Ext.trans ?_ (by assumption))) | (trace_state; fail))
    (first
      | (go_at_call 16
         refine (clone_any _ w1.heap.size (Ext.size (by (repeat (first | exact Below.refl _ _ | exact Ext.refl _ | assumption | refine Below.drew ?_ | refine below_drewN ?_ _ | refine below_alloc ?_ (by first | exact Nat.le_refl _ | assumption | (simp; done) | omega | (simp; omega)) _ | refine below_ext ?_ (by assumption) (by first | exact Nat.le_refl _ | assumption | (simp; done) | omega | (simp; omega)) | refine Ext.drew ?_ | refine Ext.drewN ?_ _ | refine Ext.alloc ?_ _ | refine Ext.setCell ?_ (by first | assumption | (simp; done) | (simp; omega)) _ | refine Below.setCell ?_ (by first | assumption | (simp; done) | (simp; omega)) _ | refine Ext.trans ?_ (by assumption))))) A n c cs hl (hr.at (by (repeat (first | exact Below.refl _ _ | exact Ext.refl _ | assumption | refine Below.drew ?_ | refine below_drewN ?_ _ | refine below_alloc ?_ (by first | exact Nat.le_refl _ | assumption | (simp; done) | omega | (simp; omega)) _ | refine below_ext ?_ (by assumption) (by first | exact Nat.le_refl _ | assumption | (simp; done) | omega | (simp; omega)) | refine Ext.drew ?_ | refine Ext.drewN ?_ _ | refine Ext.alloc ?_ _ | refine Ext.setCell ?_ (by first | assumption | (simp; done) | (simp; omega)) _ | refine Below.setCell ?_ (by first | assumption | (simp; done) | (simp; omega)) _ | refine Ext.trans ?_ (by assumption)))) (Nat.le_refl _)) h1 (by omega)).mono ?_
         rintro e w2 ⟨v2, rfl, hown2, e2⟩)
      | (refine step_append_any _ rfl (.tmp 7) (.tmp 9) _ rfl w1.heap.size 25 i0 _ 4 48 Try.underlying22 hi0 hz0 hz1 hz2 rfl (by omega) v2 n cs rfl (by first | exact hown2 | exact hown2.alloc _)
           0 _ _ 1 1 [.string u, .int .i64 k, .string p, .int .i64 e] rfl rfl (by first | exact (rd_new _ _ _).more (Nat.zero_le _) (Nat.le_refl _) | exact ((rd_new _ _ _).drew.ext e2 (by simp)).more (Nat.zero_le _) (Nat.le_refl _)) (by simp [Value.oneCell']) hmx hn (Ext.size (by (repeat (first | exact Below.refl _ _ | exact Ext.refl _ | assumption | refine Below.drew ?_ | refine below_drewN ?_ _ | refine below_alloc ?_ (by first | exact Nat.le_refl _ | assumption | (simp; done) | omega | (simp; omega)) _ | refine below_ext ?_ (by assumption) (by first | exact Nat.le_refl _ | assumption | (simp; done) | omega | (simp; omega)) | refine Ext.drew ?_ | refine Ext.drewN ?_ _ | refine Ext.alloc ?_ _ | refine Ext.setCell ?_ (by first | assumption | (simp; done) | (simp; omega)) _ | refine Below.setCell ?_ (by first | assumption | (simp; done) | (simp; omega)) _ | refine Ext.trans ?_ (by assumption))))) ?_
         intro v3 w3 hown3 hg3 hat3
         have e3 : Ext w1 w3 := ext_grown (by (repeat (first | exact Below.refl _ _ | exact Ext.refl _ | assumption | refine Below.drew ?_ | refine below_drewN ?_ _ | refine below_alloc ?_ (by first | exact Nat.le_refl _ | assumption | (simp; done) | omega | (simp; omega)) _ | refine below_ext ?_ (by assumption) (by first | exact Nat.le_refl _ | assumption | (simp; done) | omega | (simp; omega)) | refine Ext.drew ?_ | refine Ext.drewN ?_ _ | refine Ext.alloc ?_ _ | refine Ext.setCell ?_ (by first | assumption | (simp; done) | (simp; omega)) _ | refine Below.setCell ?_ (by first | assumption | (simp; done) | (simp; omega)) _ | refine Ext.trans ?_ (by assumption)))) (by first | exact hown2 | exact hown2.alloc _) hg3 (Nat.le_refl _)
         clear hg3 hat3))
  all_goals (obtain ⟨A3, c3, rfl, hc3, hm3, _⟩ := own_form hown3)
  all_goals (go_wp2_with fail)
  all_goals go_ret
  all_goals first | exact add_ok1 hown3 e1 e3 ‹_› | exact add_ok2 hown3 e1 e3 ‹_›
end Go.Proofs.Ytehdfiiflhpoiaa
