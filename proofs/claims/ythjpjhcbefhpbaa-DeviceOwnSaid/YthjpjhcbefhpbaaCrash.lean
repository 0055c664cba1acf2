/- device.Crash. -/
import Derived.Test.YthjpjhcbefhpbaaFault
namespace Go.Proofs.Ythjpjhcbefhpbaa
open Go.RowKit
set_option linter.unusedSimpArgs false
set_option linter.unusedVariables false

theorem chk_ok {d : Dev} (hl : d.secs.n = d.secs.xs.length) (h : chkE d = 0) : 2 ≤ d.secs.n ∧ d.secs.n ≤ 8192 ∧ (∀ s ∈ d.secs.xs, s.n = 64) ∧ ∀ x ∈ d.waits.xs, 0 ≤ x.pos ∧ x.pos < (d.secs.n : Int) ∧ x.data.n = 64 := by
  unfold chkE at h
  split at h
  · cases h
  · rename_i h1
    split at h
    · cases h
    · rename_i h2
      refine ⟨by omega, by omega, fun s hs => ?_, fun x hx => ?_⟩
      · rcases Decidable.em (s.n = 64) with h' | h'
        · exact h'
        · exact absurd (Or.inr (Or.inr (List.any_eq_true.2 ⟨s, hs, by simpa [oddO] using h'⟩))) h1
      · rcases Decidable.em (0 ≤ x.pos ∧ x.pos < (d.secs.n : Int) ∧ x.data.n = 64) with h' | h'
        · exact h'
        · refine absurd (List.any_eq_true.2 ⟨x, hx, ?_⟩) h2
          simp only [badW, oddO, Bool.or_eq_true, decide_eq_true_eq, bne_iff_ne]
          omega
/-- the sectors behind the first k writes, those that are kept -/
def setV (kp : Nat → Bool) (ws : List (Int × List UInt8)) (ss : List (List UInt8)) : Nat → List (List UInt8)
  | 0 => ss
  | k + 1 => match ws[k]? with
    | some x => if kp k then (setV kp ws ss k).set x.1.toNat x.2 else setV kp ws ss k
    | none => setV kp ws ss k
theorem setU_abs (kp : Nat → Bool) (ws : List Wrt) (ss : List Oct) : ∀ k, (setU kp ws ss k).map (·.xs) = setV kp (ws.map Wrt.abs) (ss.map (·.xs)) k
  | 0 => rfl
  | k + 1 => by
    unfold setU setV
    rw [List.getElem?_map]
    cases ws[k]? with
    | none => exact setU_abs kp ws ss k
    | some x =>
      simp only [Option.map_some]
      cases kp k
      · simpa using setU_abs kp ws ss k
      · simp only [if_true, List.map_set, setU_abs kp ws ss k]
        rfl
theorem Nb.of_lt {w : World} {lo hi : Nat} {s : Oct} (h : Oct.At w lo hi s) {B : Nat} (hB : hi ≤ B ∨ B < lo) : Nb B s := fun hn b o hA e => by
  subst e
  exact Ap.of_lt h (v := .slice (some ⟨b, 0, none⟩) 0 0) (fun b' hb' => (show b = b' by simpa [Value.ownBlock] using hb') ▸ hB) hn b o hA rfl
/-- a device of the call's own, laid into a variable -/
theorem Dev.OwnAt.box {w w' : World} {lo g : Nat} {d : Dev} (h : Dev.OwnAt w lo g d) (hw : w.alloc (.cells #[d.secs.val, d.waits.val] 29) = w') : Dev.OwnB w' lo g w.heap.size d := by
  obtain ⟨e, z, G⟩ := box_cells hw
  have hf : ∀ j, j < 2 → w'.frozen? ⟨w.heap.size, j, none⟩ = false := fun j _ => by
    subst hw
    have := heap_alloc_new w (.cells #[d.secs.val, d.waits.val] 29)
    unfold World.frozen?
    rw [this]
    simp
  refine ⟨h.ext e, h.g_lt, by omega, G 0 _ rfl _ (Ext.refl _), G 1 _ rfl _ (Ext.refl _), hf 0 (by omega), hf 1 (by omega), fun s hs => Nb.of_lt (h.secs s hs).1 (.inl (Nat.le_refl _)), fun e' => ?_, fun x hx => Nb.of_lt (h.waits x hx).1.data (.inl (Nat.le_refl _))⟩
  have := h.own.lt _ e'
  omega
def boolc (b : Bool) : List Value := [.bool b]
def keepB (ks : List Bool) (i : Nat) : Bool := ks.getD i false
theorem keep1_any (w : World) (A : Option Addr) (n c : Nat) (ks : List Bool) (b : Nat) (hn : n = ks.length) (hm : n ≤ 9223372036854775807) (hr : Rd w 0 w.heap.size A (ks.flatMap boolc)) (hb : w.cell? ⟨b, 0, none⟩ = some (.slice A n c)) (i : Nat) (hi : i ≤ 9223372036854775807) :
    Calls Try.prog 21 #[.int .i64 (i : Int), .pointer (some ⟨b, 0, none⟩)] w fun e w' => e = .returned (.bool (keepB ks i)) ∧ Ext w w' := by
  by_cases hlt : i < n
  · have hl : i < ks.length := by omega
    obtain ⟨b1, o1, rfl, _, hb1, G0⟩ := rd_flat (size := 1) (fun _ => rfl) (by omega) hr hl
    have hk := Lib.hid (show keepB ks i = ks[i] by simp [keepB, hl])
    have g0 := G0 0 _ rfl
    simp only [Nat.add_zero, Nat.mul_one] at g0
    clear G0
    generalize ks[i] = v at *
    have q0 : (0 : Int) ≤ i := by omega
    have q1 : (i : Int) < n := by omega
    clear hn
    go_enter Try.func21, Try.ntmps21
    go_wp2_with fail
    go_ret
    exact ⟨retB (by rw [hk.out]; try simp), Ext.refl _⟩
  · have hk := Lib.hid (show keepB ks i = false by simp [keepB, List.getElem?_eq_none (show ks.length ≤ i by omega)])
    have q1 : (n : Int) ≤ i := by omega
    clear hn
    go_enter Try.func21, Try.ntmps21
    go_wp2_with fail
    go_ret
    exact ⟨retB (by rw [hk.out]), Ext.refl _⟩
theorem call_keep1 : ∀ args w, (callFunc 21 args).run Try.prog w = .ok (.enter 21 args) w := callF Try.func21 (by kernel_rfl) rfl
set_option maxHeartbeats 1000000 in
theorem crash_no (d : Dev) (w : World) (h : Dev.At w 0 w.heap.size d) (hc : chkE d ≠ 0) (A : Option Addr) (n c : Nat) :
    Calls Try.prog 13 #[.agg d.cells.toArray, .slice A n c] w fun e w' => e = .returned (.tuple #[.agg #[.slice none 0 0, .slice none 0 0], .int .i64 (chkE d)]) ∧ Ext w w' := by
  have HC := Lib.hid (fun w1 (e : Ext w w1) => chk_any d w1 (h.on e (Nat.le_refl _)))
  have q0 : (chkE d != 0) = true := by simpa using hc
  generalize chkE d = ce at *
  obtain ⟨⟨sA, sn, sc, xs⟩, ⟨B, m, k9, ys⟩⟩ := d
  simp only [Dev.cells, Sl.val] at *
  clear h hc
  go_enter Try.func13, Try.ntmps13
  go_wp2_with (go_at_call 15; refine (HC.out _ (by (repeat (first | exact Below.refl _ _ | exact Ext.refl _ | assumption | refine Below.drew ?_ | refine below_drewN ?_ _ | refine below_alloc ?_ (by first | exact Nat.le_refl _ | assumption | (simp; done) | omega | (simp; omega)) _ | refine below_ext ?_ (by assumption) (by first | exact Nat.le_refl _ | assumption | (simp; done) | omega | (simp; omega)) | refine Ext.drew ?_ | refine Ext.drewN ?_ _ | refine Ext.alloc ?_ _ | refine Ext.setCell ?_ (by first | assumption | (simp; done) | (simp; omega)) _ | refine Below.setCell ?_ (by first | assumption | (simp; done) | (simp; omega)) _ | refine Ext.trans ?_ (by assumption))))).mono ?_; rintro e w2 ⟨rfl, e2⟩; obtain ⟨p1, p2⟩ := bcell e2; have z2 : w.heap.size + 2 < w2.heap.size := (by have := e2.size; simp at this; omega); have c0 : w2.cell? ⟨w.heap.size + 2, 0, none⟩ = some (.slice none 0 0) := (by rw [p1 _ _ (by first | (simp; done) | (simp; omega))]; go_simp); have c1 : w2.cell? ⟨w.heap.size + 2, 1, none⟩ = some (.slice none 0 0) := (by rw [p1 _ _ (by first | (simp; done) | (simp; omega))]; go_simp); have f0 : w2.frozen? ⟨w.heap.size + 2, 0, none⟩ = false := (by rw [p2 _ _ (by first | (simp; done) | (simp; omega))]; go_simp); have f1 : w2.frozen? ⟨w.heap.size + 2, 1, none⟩ = false := (by rw [p2 _ _ (by first | (simp; done) | (simp; omega))]; go_simp))
  refine bodyPost_ret (v := .tuple #[.agg #[.slice none 0 0, .slice none 0 0], .int .i64 ce]) (by simp [results, Try.results13, go_sem, *]) rfl ⟨rfl, by (repeat (first | exact Below.refl _ _ | exact Ext.refl _ | assumption | refine Below.drew ?_ | refine below_drewN ?_ _ | refine below_alloc ?_ (by first | exact Nat.le_refl _ | assumption | (simp; done) | omega | (simp; omega)) _ | refine below_ext ?_ (by assumption) (by first | exact Nat.le_refl _ | assumption | (simp; done) | omega | (simp; omega)) | refine Ext.drew ?_ | refine Ext.drewN ?_ _ | refine Ext.alloc ?_ _ | refine Ext.setCell ?_ (by first | assumption | (simp; done) | (simp; omega)) _ | refine Below.setCell ?_ (by first | assumption | (simp; done) | (simp; omega)) _ | refine Ext.trans ?_ (by assumption)))⟩
theorem Dev.At.set_low {w : World} {lo hi : Nat} {d : Dev} (h : Dev.At w lo hi d) {p : Addr} (hp : p.block < lo) (u : Value) : Dev.At (w.setCell p u) lo hi d := h.imp fun _ _ hr => hr.setCell_low hp u
/-- a keep list that came in -/
structure Ks (w : World) (A : Option Addr) (n c : Nat) (ks : List Bool) : Prop where
  len : n = ks.length
  le : n ≤ 9223372036854775807
  rd : Rd w 0 w.heap.size A (ks.flatMap boolc)
set_option maxHeartbeats 2000000 in
theorem crash_yes (d : Dev) (w : World) (h : Dev.At w 0 w.heap.size d) (hc : chkE d = 0) (h3 : d.waits.n * 32 ≤ 140737488355328) (A : Option Addr) (n c : Nat) (ks : List Bool) (hk : Ks w A n c ks) :
    Calls Try.prog 13 #[.agg d.cells.toArray, .slice A n c] w fun e w' => (∃ d' : Dev, e = .returned (.tuple #[.agg d'.cells.toArray, .int .i64 0]) ∧ d'.secv = setV (keepB ks) d.wv d.secv d.waits.n ∧ d'.waits = ⟨none, 0, 0, []⟩ ∧ d'.secs.n = d.secs.n ∧ Dev.At w' w.heap.size w'.heap.size d') ∧ Ext w w' := by
  have HC := Lib.hid (fun w1 (e : Ext w w1) => chk_any d w1 (h.on e (Nat.le_refl _)))
  rw [hc] at HC
  obtain ⟨ok0, ok1, ok2, ok3⟩ := chk_ok h.secs.len hc
  have HCp := Lib.hid (fun w1 (e : Ext w w1) => copied_any d w1 (h.on e (Nat.le_refl _)) ok1 (fun s hs => by rw [ok2 s hs]; exact Nat.le_refl _) h3 (fun x hx => by rw [(ok3 x hx).2.2]; exact Nat.le_refl _))
  have OK3 := Lib.hid ok3
  have HK := Lib.hid hk
  have HG := Lib.hid (show d.waits.n = d.wv.length by rw [Dev.wv, List.length_map]; exact h.waits.len)
  clear ok0 ok1 ok2 ok3 hc h3 h hk
  have hdw := Lib.hid (show d.wv = d.waits.xs.map Wrt.abs from rfl)
  generalize hdn : d.waits.n = dn at *
  have Hdn := Lib.hid hdn
  clear hdn
  generalize hcv : d.cells.toArray = cv at *
  have Hcv := Lib.hid hcv
  obtain ⟨v0, v1, hv⟩ : ∃ v0 v1, cv = #[v0, v1] := ⟨_, _, hcv.symm⟩
  clear hcv
  have Hv := Lib.hid hv
  subst hv
  obtain ⟨sv0, sv1⟩ : (∃ A n c, v0 = .slice A n c) ∧ ∃ A n c, v1 = .slice A n c := by
    have := Hcv.out
    simp only [Dev.cells, Sl.val, List.toArray_inj] at this
    simp at this
    exact ⟨⟨_, _, _, this.1.symm⟩, ⟨_, _, _, this.2.symm⟩⟩
  obtain ⟨A0, n0, c0, rfl⟩ := sv0
  obtain ⟨A1, n1, c1, rfl⟩ := sv1
  go_enter Try.func13, Try.ntmps13
  go_wp2_with (go_at_call 15; refine (HC.out _ (by (repeat (first | exact Below.refl _ _ | exact Ext.refl _ | assumption | refine Below.drew ?_ | refine below_drewN ?_ _ | refine below_alloc ?_ (by first | exact Nat.le_refl _ | assumption | (simp; done) | omega | (simp; omega)) _ | refine below_ext ?_ (by assumption) (by first | exact Nat.le_refl _ | assumption | (simp; done) | omega | (simp; omega)) | refine Ext.drew ?_ | refine Ext.drewN ?_ _ | refine Ext.alloc ?_ _ | refine Ext.setCell ?_ (by first | assumption | (simp; done) | (simp; omega)) _ | refine Below.setCell ?_ (by first | assumption | (simp; done) | (simp; omega)) _ | refine Ext.trans ?_ (by assumption))))).mono ?_; rintro e w2 ⟨rfl, e2⟩; obtain ⟨p1, p2⟩ := bcell e2; have z2 : w.heap.size + 2 < w2.heap.size := (by have := e2.size; simp at this; omega))
  have k0 : w2.cell? ⟨w.heap.size + 1, 0, none⟩ = some (.slice A n c) := by rw [p1 _ _ (by first | (simp; done) | (simp; omega))]; go_simp
  have r0 : w2.cell? ⟨w.heap.size + 2, 0, none⟩ = some (.slice none 0 0) := by rw [p1 _ _ (by first | (simp; done) | (simp; omega))]; go_simp
  have r1 : w2.cell? ⟨w.heap.size + 2, 1, none⟩ = some (.slice none 0 0) := by rw [p1 _ _ (by first | (simp; done) | (simp; omega))]; go_simp
  have f0 : w2.frozen? ⟨w.heap.size + 2, 0, none⟩ = false := by rw [p2 _ _ (by first | (simp; done) | (simp; omega))]; go_simp
  have f1 : w2.frozen? ⟨w.heap.size + 2, 1, none⟩ = false := by rw [p2 _ _ (by first | (simp; done) | (simp; omega))]; go_simp
  have x2 : Ext w w2 := by (repeat (first | exact Below.refl _ _ | exact Ext.refl _ | assumption | refine Below.drew ?_ | refine below_drewN ?_ _ | refine below_alloc ?_ (by first | exact Nat.le_refl _ | assumption | (simp; done) | omega | (simp; omega)) _ | refine below_ext ?_ (by assumption) (by first | exact Nat.le_refl _ | assumption | (simp; done) | omega | (simp; omega)) | refine Ext.drew ?_ | refine Ext.drewN ?_ _ | refine Ext.alloc ?_ _ | refine Ext.setCell ?_ (by first | assumption | (simp; done) | (simp; omega)) _ | refine Below.setCell ?_ (by first | assumption | (simp; done) | (simp; omega)) _ | refine Ext.trans ?_ (by assumption)))
  clear p1 p2
  refine (HCp.out _ x2).mono ?_
  rintro e w3 ⟨⟨d', g, rfl, hs, hw, hn', ho⟩, e3⟩
  obtain ⟨⟨A', n', c', xs'⟩, ⟨B', m', k', ys'⟩⟩ := d'
  have HO := Lib.hid ho
  have HS := Lib.hid hs
  have HW := Lib.hid hw
  have HN := Lib.hid hn'
  clear ho hs hw hn'
  have x3 : Ext w w3 := x2.trans e3
  have z3 : w.heap.size + 2 < w3.heap.size := Nat.lt_of_lt_of_le z2 e3.size
  simp only [Dev.cells, Sl.val]
  go_wp2_with fail
  generalize hw4 : World.alloc w3 _ = w4
  have HB := Lib.hid (HO.out.box (w' := w4) (by simpa [Sl.val] using hw4))
  have e4 : Ext w3 w4 := by rw [← hw4]; exact (Ext.refl _).alloc _
  clear hw4
  have x4 : Ext w w4 := x3.trans e4
  have hlo : w.heap.size + 2 < w2.heap.size := z2
  have hm : m' = d.wv.length := by
    rw [← HW.out, Dev.wv, List.length_map]
    exact HO.out.wn
  have hpos : ∀ x ∈ ys', 0 ≤ x.pos ∧ x.pos < (n' : Int) := fun x hx => by
    have h1 : x.abs ∈ d.waits.xs.map Wrt.abs := by
      rw [← hdw.out, ← HW.out]
      exact List.mem_map_of_mem (f := Wrt.abs) hx
    obtain ⟨y, hy, hya⟩ := List.mem_map.1 h1
    have h2 := OK3.out y hy
    have h3 : y.pos = x.pos := congrArg Prod.fst hya
    have h4 : n' = d.secs.n := HN.out
    rw [h4, ← h3]
    exact ⟨h2.1, h2.2.1⟩
  have HSt := Lib.hid (settle_any _ w4 w2.heap.size g w3.heap.size HB.out hpos (keepB ks) (.func (.func 21) #[] #[.pointer (some ⟨w.heap.size + 1, 0, none⟩)]) 21 #[.pointer (some ⟨w.heap.size + 1, 0, none⟩)] rfl call_keep1 (fun i hi w5 hb => by
    have hx : Ext w w5 := Below.trans x4 (Below.mono hb x2.size)
    refine keep1_any w5 A n c ks (w.heap.size + 1) HK.out.len HK.out.le (Rd.at HK.out.rd hx (Nat.le_refl _)) ?_ i ?_
    · rw [Below.cell hb (show w.heap.size + 1 < w2.heap.size by omega), Below.cell (e3.trans e4) (show w.heap.size + 1 < w2.heap.size by omega)]
      exact k0
    · obtain ⟨_, a2, a3⟩ := own_le HO.out.own rfl
      have a4 : m' ≤ maxLen := Nat.le_trans a2 a3
      have a5 : i < m' := hi
      unfold maxLen at a4
      omega))
  refine HSt.out.mono ?_
  rintro e w5 ⟨rfl, ho5, hb5⟩
  have HO5 := Lib.hid ho5
  have u0 := ho5.c0
  have u1 := ho5.c1
  have ub := ho5.lt
  simp only [Sl.val] at u0 u1
  have t0 : w5.cell? ⟨w.heap.size + 2, 0, none⟩ = some (.slice none 0 0) := by rw [Below.cell hb5 hlo, Below.cell (e3.trans e4) hlo]; exact r0
  have t1 : w5.cell? ⟨w.heap.size + 2, 1, none⟩ = some (.slice none 0 0) := by rw [Below.cell hb5 hlo, Below.cell (e3.trans e4) hlo]; exact r1
  have t2 : w5.frozen? ⟨w.heap.size + 2, 0, none⟩ = false := by rw [Below.frozen hb5 hlo, Below.frozen (e3.trans e4) hlo]; exact f0
  have t3 : w5.frozen? ⟨w.heap.size + 2, 1, none⟩ = false := by rw [Below.frozen hb5 hlo, Below.frozen (e3.trans e4) hlo]; exact f1
  have x5 : Ext w w5 := Below.trans x4 (Below.mono hb5 x2.size)
  clear ho5 r0 r1 f0 f1 k0
  go_wp2_with fail
  refine bodyPost_ret (v := .tuple #[.agg #[.slice A' n' c', .slice none 0 0], .int .i64 0]) (by simp [results, Try.results13, go_sem, *]) rfl ⟨⟨⟨⟨A', n', c', setU (keepB ks) ys' xs' m'⟩, ⟨none, 0, 0, []⟩⟩, rfl, ?_, rfl, HN.out, ?_⟩, by (repeat (first | exact Below.refl _ _ | exact Ext.refl _ | assumption | refine Below.drew ?_ | refine below_drewN ?_ _ | refine below_alloc ?_ (by first | exact Nat.le_refl _ | assumption | (simp; done) | omega | (simp; omega)) _ | refine below_ext ?_ (by assumption) (by first | exact Nat.le_refl _ | assumption | (simp; done) | omega | (simp; omega)) | refine Ext.drew ?_ | refine Ext.drewN ?_ _ | refine Ext.alloc ?_ _ | refine Ext.setCell ?_ (by first | assumption | (simp; done) | (simp; omega)) _ | refine Below.setCell ?_ (by first | assumption | (simp; done) | (simp; omega)) _ | refine Ext.trans ?_ (by assumption)))⟩
  · show (setU (keepB ks) ys' xs' m').map (·.xs) = _
    rw [setU_abs, hm, HG.out, show ys'.map Wrt.abs = d.wv from HW.out, show xs'.map (·.xs) = d.secv from HS.out]
  · have := ((HO5.out.at_.at_).set_low (p := ⟨w.heap.size + 2, 0, none⟩) hlo (.slice A' n' c')).set_low (p := ⟨w.heap.size + 2, 1, none⟩) hlo (.slice none 0 0)
    have h9 := this.low x2.size
    simpa using h9
end Go.Proofs.Ythjpjhcbefhpbaa
