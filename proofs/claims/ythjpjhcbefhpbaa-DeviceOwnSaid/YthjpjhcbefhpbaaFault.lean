/- device.fault; a write put behind those that wait; plain laws of devices. -/
import Derived.Test.YthjpjhcbefhpbaaSettle
import Derived.Test.YthjpjhcbefhpbaaDev1
namespace Go.Proofs.Ythjpjhcbefhpbaa
open Go.RowKit
set_option linter.unusedSimpArgs false
set_option linter.unusedVariables false

structure Ac where
  flush : Bool
  pos : Int
  data : Oct
def Ac.cells (x : Ac) : List Value := [.bool x.flush, .int .i64 x.pos, x.data.val]
structure Ac.At (w : World) (lo hi : Nat) (x : Ac) : Prop where
  p0 : -9223372036854775808 ≤ x.pos
  p1 : x.pos ≤ 9223372036854775807
  data : Oct.At w lo hi x.data
def faultE (n : Nat) (a : Ac) : Int := if a.flush = true then 0 else if a.pos < 0 ∨ (n : Int) ≤ a.pos then 4 else if a.data.n = 64 then 0 else 5
set_option maxHeartbeats 1000000 in
theorem fault_any (d : Dev) (a : Ac) (w : World) (hn : d.secs.n ≤ 9223372036854775807) (p0 : -9223372036854775808 ≤ a.pos) (p1 : a.pos ≤ 9223372036854775807) (hd : a.data.n ≤ 9223372036854775807) :
    Calls Try.prog 16 #[.agg d.cells.toArray, .agg a.cells.toArray] w fun e w' => e = .returned (.int .i64 (faultE d.secs.n a)) ∧ Ext w w' := by
  have H := Lib.hid (fun w1 => odd_any a.data w1 hd)
  have ho : Hid (oddO a.data = !decide (a.data.n = 64)) := Lib.hid (by rw [oddO, Bool.eq_iff_iff]; simp)
  have hv := Lib.hid (show faultE d.secs.n a = if a.flush = true then 0 else if a.pos < 0 ∨ (d.secs.n : Int) ≤ a.pos then 4 else if a.data.n = 64 then 0 else 5 from rfl)
  generalize faultE d.secs.n a = v at *
  generalize oddO a.data = od at *
  obtain ⟨⟨A, n, c, xs⟩, ⟨B, m, k, ys⟩⟩ := d
  obtain ⟨fl, pos, ⟨aA, an, ac, ax⟩⟩ := a
  simp only [Dev.cells, Ac.cells, Sl.val] at *
  have hcase : fl = true ∨ (fl = false ∧ pos < 0) ∨ (fl = false ∧ 0 ≤ pos ∧ (n : Int) ≤ pos) ∨ (fl = false ∧ 0 ≤ pos ∧ pos < (n : Int)) := by cases fl <;> simp <;> omega
  rcases hcase with q0 | ⟨q0, q1⟩ | ⟨q0, q1, q2⟩ | ⟨q0, q1, q2⟩
  all_goals
    subst q0
    go_enter Try.func16, Try.ntmps16
    go_wp2_with (go_at_call 24; refine (H.out _).mono ?_; rintro e w2 ⟨rfl, e2⟩)
    all_goals (go_ret; refine ⟨retI ?_, by (repeat (first | exact Below.refl _ _ | exact Ext.refl _ | assumption | refine Below.drew ?_ | refine below_drewN ?_ _ | refine below_alloc ?_ (by first | exact Nat.le_refl _ | assumption | (simp; done) | omega | (simp; omega)) _ | refine below_ext ?_ (by assumption) (by first | exact Nat.le_refl _ | assumption | (simp; done) | omega | (simp; omega)) | refine Ext.drew ?_ | refine Ext.drewN ?_ _ | refine Ext.alloc ?_ _ | refine Ext.setCell ?_ (by first | assumption | (simp; done) | (simp; omega)) _ | refine Below.setCell ?_ (by first | assumption | (simp; done) | (simp; omega)) _ | refine Ext.trans ?_ (by assumption)))⟩; rw [hv.out]; try (first | (simp [*]; done) | (simp [*]; omega) | (rw [if_neg (by simp), if_neg (by omega)]; have h9 := ho.out; subst h9; simp_all; done)))

section
variable {w w' : World} {lo g B : Nat} {d : Dev}
/-- a write more -/
theorem Dev.OwnB.push (h : Dev.OwnB w lo g B d) {pos : Int} (hp0 : -9223372036854775808 ≤ pos) (hp1 : pos ≤ 9223372036854775807) {s : Oct} (hs : Oct.At w (g + 1) w.heap.size s) (ha : Ap d.waits.val s) (hn : Nb B s) {A4 : Option Addr} {c4 : Nat}
    (o4 : w'.ownsRow (g + 1) 45 2 (.slice A4 (d.waits.n + 1) c4) (d.waits.n + 1) (d.waits.xs.flatMap Wrt.cells ++ [.int .i64 pos, s.val])) (hg : w.grownBy w' d.waits.val.ownBlock)
    (hob : (Value.slice A4 (d.waits.n + 1) c4).ownBlock = d.waits.val.ownBlock ∨ (Value.slice A4 (d.waits.n + 1) c4).ownBlock = some w.heap.size) :
    Dev.OwnB (w'.setCell ⟨B, 1, none⟩ (.slice A4 (d.waits.n + 1) c4)) lo g B ⟨d.secs, ⟨A4, d.waits.n + 1, c4, d.waits.xs ++ [⟨pos, s⟩]⟩⟩ := by
  have hsz : (w'.setCell ⟨B, 1, none⟩ (.slice A4 (d.waits.n + 1) c4)).heap.size = w'.heap.size := by simp
  have hgB := h.gB
  have hlt := h.lt
  have hbB := hg.block B hlt (fun e => h.own e.symm)
  have hbv : ∀ b, d.waits.val.ownBlock = some b → g + 1 ≤ b ∧ b < w.heap.size := fun b hb => h.at_.own.lt b hb
  have ap4 : ∀ x : Oct, Oct.At w (g + 1) w.heap.size x → Ap d.waits.val x → Ap (.slice A4 (d.waits.n + 1) c4) x := fun x hx hap hne b o hA hb => by
    rcases hob with h' | h'
    · exact hap hne b o hA (by rw [← h']; exact hb)
    · rw [h'] at hb
      injection hb with hb
      exact Ap.of_lt hx (v := .slice A4 (d.waits.n + 1) c4) (fun b' hb' => by rw [h'] at hb'; injection hb' with hb'; omega) hne b o hA (by rw [h', hb])
  have keep : ∀ x : Oct, Oct.At w (g + 1) w.heap.size x → Ap d.waits.val x → Nb B x → Oct.At (w'.setCell ⟨B, 1, none⟩ (.slice A4 (d.waits.n + 1) c4)) (g + 1) (w'.setCell ⟨B, 1, none⟩ (.slice A4 (d.waits.n + 1) c4)).heap.size x := fun x hx hap hnb => by
    rw [hsz]
    exact Oct.At.set_ne (Oct.At.grown hx hg hap) hnb _
  have hown4 : (Value.slice A4 (d.waits.n + 1) c4).ownBlock ≠ some B := fun e => by
    rcases hob with h' | h'
    · exact h.own (by rw [← h']; exact e)
    · rw [h'] at e; injection e with e; omega
  refine ⟨⟨h.at_.lo_g, by rw [hsz]; exact Nat.lt_of_lt_of_le h.at_.g_lt hg.size, h.at_.secA, h.at_.secn, h.at_.secc, h.at_.secm, ?_, fun x hx => ⟨keep x (h.at_.secs x hx).1 (h.at_.secs x hx).2 (h.secs x hx), ap4 x (h.at_.secs x hx).1 (h.at_.secs x hx).2⟩,
      by show d.waits.n + 1 = _; rw [List.length_append, h.at_.wn]; rfl, ?_, fun x hx => ?_⟩, h.gB, by rw [hsz]; exact Nat.lt_of_lt_of_le h.lt hg.size,
    (World.cell?_setCell_other _ _ _ _ (fun e => by injection e with _ e2; omega)).trans ((World.cell?_of_block hbB).trans h.c0), World.cell?_setCell_same _ _ _ ((World.cell?_of_block hbB).trans h.c1),
    (World.frozen?_setCell _ _ _ _).trans ((World.frozen?_of_block hbB).trans h.f0), (World.frozen?_setCell _ _ _ _).trans ((World.frozen?_of_block hbB).trans h.f1), h.secs, hown4, fun x hx => ?_⟩
  · rw [hsz]
    exact ((h.at_.row.grown_ne hg (Nat.le_refl _) (fun _ b o hA hb => by
      injection hA with hA
      injection hA with hA
      have := hbv _ hb
      omega)).else_ (p := ⟨B, 1, none⟩) (by show B ≠ g; omega) _).more (Nat.le_refl _) hg.size
  · have := own_set_ne o4 (p := ⟨B, 1, none⟩) hown4 (.slice A4 (d.waits.n + 1) c4)
    show World.ownsRow _ _ _ _ (.slice A4 (d.waits.n + 1) c4) _ ((d.waits.xs ++ [(⟨pos, s⟩ : Wrt)]).flatMap Wrt.cells)
    rw [List.flatMap_append]
    simpa [Wrt.cells] using this
  · rcases List.mem_append.1 hx with h' | h'
    · exact ⟨⟨(h.at_.waits x h').1.p0, (h.at_.waits x h').1.p1, keep _ (h.at_.waits x h').1.data (h.at_.waits x h').2 (h.waits x h')⟩, ap4 _ (h.at_.waits x h').1.data (h.at_.waits x h').2⟩
    · simp only [List.mem_singleton] at h'
      subst h'
      exact ⟨⟨hp0, hp1, keep s hs ha hn⟩, ap4 s hs ha⟩
  · rcases List.mem_append.1 hx with h' | h'
    · exact h.waits x h'
    · simp only [List.mem_singleton] at h'
      subst h'
      exact hn
end
end Go.Proofs.Ythjpjhcbefhpbaa
