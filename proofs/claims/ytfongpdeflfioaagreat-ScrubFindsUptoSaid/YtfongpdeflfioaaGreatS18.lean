/- The texts Crash, Do, Fmt in one file. -/
import Derived.Test.YtfongpdeflfioaaGreatS14
import Derived.Test.YtfongpdeflfioaaGreatS17
import Derived.Test.YtfongpdeflfioaaGreatS2
/- device.Crash. -/
namespace Go.Proofs.YtfongpdeflfioaaGreat
open Go.RowKit
set_option linter.unusedSimpArgs false
set_option linter.unusedVariables false
theorem chk_ok {d : Dev} (hl : d.secs.n = d.secs.xs.length) (h : chkE d = 0) : 2 ≤ d.secs.n ∧ d.secs.n ≤ 8192 ∧ (∀ s ∈ d.secs.xs, s.n = 64) ∧ ∀ x ∈ d.waits.xs, 0 ≤ x.pos ∧ x.pos < (d.secs.n : Int) ∧ x.data.n = 64 := by
  unfold chkE at h
  split at h
  · cases h
  · rename_i h1
    split at h
    · cases h
    · rename_i h2
      refine ⟨by omega, by omega, fun s hs => ?_, fun x hx => ?_⟩
      · rcases Decidable.em (s.n = 64) with h' | h'
        · exact h'
        · exact absurd (Or.inr (Or.inr (List.any_eq_true.2 ⟨s, hs, by simpa [oddO] using h'⟩))) h1
      · rcases Decidable.em (0 ≤ x.pos ∧ x.pos < (d.secs.n : Int) ∧ x.data.n = 64) with h' | h'
        · exact h'
        · refine absurd (List.any_eq_true.2 ⟨x, hx, ?_⟩) h2
          simp only [badW, oddO, Bool.or_eq_true, decide_eq_true_eq, bne_iff_ne]
          omega
def setV (kp : Nat → Bool) (ws : List (Int × List UInt8)) (ss : List (List UInt8)) : Nat → List (List UInt8)
  | 0 => ss
  | k + 1 => match ws[k]? with
    | some x => if kp k then (setV kp ws ss k).set x.1.toNat x.2 else setV kp ws ss k
    | none => setV kp ws ss k
theorem setU_abs (kp : Nat → Bool) (ws : List Wrt) (ss : List Oct) : ∀ k, (setU kp ws ss k).map (·.xs) = setV kp (ws.map Wrt.abs) (ss.map (·.xs)) k
  | 0 => rfl
  | k + 1 => by
    unfold setU setV
    rw [List.getElem?_map]
    cases ws[k]? with
    | none => exact setU_abs kp ws ss k
    | some x =>
      simp only [Option.map_some]
      cases kp k
      · simpa using setU_abs kp ws ss k
      · simp only [if_true, List.map_set, setU_abs kp ws ss k]
        rfl
theorem Nb.of_lt {w : World} {lo hi : Nat} {s : Oct} (h : Oct.At w lo hi s) {B : Nat} (hB : hi ≤ B ∨ B < lo) : Nb B s := fun hn b o hA e => by
  subst e
  exact Ap.of_lt h (v := .slice (some ⟨b, 0, none⟩) 0 0) (fun b' hb' => (show b = b' by simpa [Value.ownBlock] using hb') ▸ hB) hn b o hA rfl
theorem Dev.OwnAt.box {w w' : World} {lo g : Nat} {d : Dev} (h : Dev.OwnAt w lo g d) (hw : w.alloc (.cells #[d.secs.val, d.waits.val] 25) = w') : Dev.OwnB w' lo g w.heap.size d := by
  obtain ⟨e, z, G⟩ := box_cells hw
  have hf : ∀ j, j < 2 → w'.frozen? ⟨w.heap.size, j, none⟩ = false := fun j _ => by
    subst hw
    have := heap_alloc_new w (.cells #[d.secs.val, d.waits.val] 25)
    unfold World.frozen?
    rw [this]
    simp
  refine ⟨h.ext e, h.g_lt, by omega, G 0 _ rfl _ (Ext.refl _), G 1 _ rfl _ (Ext.refl _), hf 0 (by omega), hf 1 (by omega), fun s hs => Nb.of_lt (h.secs s hs).1 (.inl (Nat.le_refl _)), fun e' => ?_, fun x hx => Nb.of_lt (h.waits x hx).1.data (.inl (Nat.le_refl _))⟩
  have := h.own.lt _ e'
  omega
def boolc (b : Bool) : List Value := [.bool b]
def keepB (ks : List Bool) (i : Nat) : Bool := ks.getD i false
theorem keep1_any (w : World) (A : Option Addr) (n c : Nat) (ks : List Bool) (b : Nat) (hn : n = ks.length) (hm : n ≤ 9223372036854775807) (hr : Rd w 0 w.heap.size A (ks.flatMap boolc)) (hb : w.cell? ⟨b, 0, none⟩ = some (.slice A n c)) (i : Nat) (hi : i ≤ 9223372036854775807) :
    Calls Tryz.prog 65 #[.int .i64 (i : Int), .pointer (some ⟨b, 0, none⟩)] w fun e w' => e = .returned (.bool (keepB ks i)) ∧ Ext w w' := by
  by_cases hlt : i < n
  · have hl : i < ks.length := by omega
    obtain ⟨b1, o1, rfl, _, hb1, G0⟩ := rd_flat (size := 1) (fun _ => rfl) (by omega) hr hl
    have hk := Lib.hid (show keepB ks i = ks[i] by simp [keepB, hl])
    have g0 := G0 0 _ rfl
    simp only [Nat.add_zero, Nat.mul_one] at g0
    clear G0
    generalize ks[i] = v at *
    have q0 : (0 : Int) ≤ i := by omega
    have q1 : (i : Int) < n := by omega
    clear hn
    go_enter Tryz.func65, Tryz.ntmps65
    go_wp2_with fail
    go_ret
    exact ⟨retB (by rw [hk.out]; try simp), Ext.refl _⟩
  · have hk := Lib.hid (show keepB ks i = false by simp [keepB, List.getElem?_eq_none (show ks.length ≤ i by omega)])
    have q1 : (n : Int) ≤ i := by omega
    clear hn
    go_enter Tryz.func65, Tryz.ntmps65
    go_wp2_with fail
    go_ret
    exact ⟨retB (by rw [hk.out]), Ext.refl _⟩
theorem call_keep1 : ∀ args w, (callFunc 65 args).run Tryz.prog w = .ok (.enter 65 args) w := callF Tryz.func65 (by kernel_rfl) rfl
set_option maxHeartbeats 1000000 in
theorem crash_no (d : Dev) (w : World) (h : Dev.At w 0 w.heap.size d) (hc : chkE d ≠ 0) (A : Option Addr) (n c : Nat) :
    Calls Tryz.prog 23 #[.agg d.cells.toArray, .slice A n c] w fun e w' => e = .returned (.tuple #[.agg #[.slice none 0 0, .slice none 0 0], .int .i64 (chkE d)]) ∧ Ext w w' := by
  have HC := Lib.hid (fun w1 (e : Ext w w1) => chk_any d w1 (h.on e (Nat.le_refl _)))
  have q0 : (chkE d != 0) = true := by simpa using hc
  generalize chkE d = ce at *
  obtain ⟨⟨sA, sn, sc, xs⟩, ⟨B, m, k9, ys⟩⟩ := d
  simp only [Dev.cells, Sl.val] at *
  clear h hc
  go_enter Tryz.func23, Tryz.ntmps23
  go_wp2_with (go_at_call 39; refine (HC.out _ (by exact blo)).mono ?_; rintro e w2 ⟨rfl, e2⟩; obtain ⟨p1, p2⟩ := bcell e2; have z2 : w.heap.size + 2 < w2.heap.size := (by have := e2.size; simp at this; omega); have c0 : w2.cell? ⟨w.heap.size + 2, 0, none⟩ = some (.slice none 0 0) := (by rw [p1 _ _ (by first | (simp; done) | (simp; omega))]; go_simp); have c1 : w2.cell? ⟨w.heap.size + 2, 1, none⟩ = some (.slice none 0 0) := (by rw [p1 _ _ (by first | (simp; done) | (simp; omega))]; go_simp); have f0 : w2.frozen? ⟨w.heap.size + 2, 0, none⟩ = false := (by rw [p2 _ _ (by first | (simp; done) | (simp; omega))]; go_simp); have f1 : w2.frozen? ⟨w.heap.size + 2, 1, none⟩ = false := (by rw [p2 _ _ (by first | (simp; done) | (simp; omega))]; go_simp))
  refine bodyPost_ret (v := .tuple #[.agg #[.slice none 0 0, .slice none 0 0], .int .i64 ce]) (by simp [results, Tryz.results23, go_sem, *]) rfl ⟨rfl, by exact blo⟩
theorem Dev.At.set_low {w : World} {lo hi : Nat} {d : Dev} (h : Dev.At w lo hi d) {p : Addr} (hp : p.block < lo) (u : Value) : Dev.At (w.setCell p u) lo hi d := h.imp fun _ _ hr => hr.setCell_low hp u
structure Ks (w : World) (A : Option Addr) (n c : Nat) (ks : List Bool) : Prop where
  len : n = ks.length
  le : n ≤ 9223372036854775807
  rd : Rd w 0 w.heap.size A (ks.flatMap boolc)
set_option maxHeartbeats 2000000 in
theorem crash_yes (d : Dev) (w : World) (h : Dev.At w 0 w.heap.size d) (hc : chkE d = 0) (h3 : d.waits.n * 32 ≤ 140737488355328) (A : Option Addr) (n c : Nat) (ks : List Bool) (hk : Ks w A n c ks) :
    Calls Tryz.prog 23 #[.agg d.cells.toArray, .slice A n c] w fun e w' => (∃ d' : Dev, e = .returned (.tuple #[.agg d'.cells.toArray, .int .i64 0]) ∧ d'.secv = setV (keepB ks) d.wv d.secv d.waits.n ∧ d'.waits = ⟨none, 0, 0, []⟩ ∧ d'.secs.n = d.secs.n ∧ Dev.At w' w.heap.size w'.heap.size d') ∧ Ext w w' := by
  have HC := Lib.hid (fun w1 (e : Ext w w1) => chk_any d w1 (h.on e (Nat.le_refl _)))
  rw [hc] at HC
  obtain ⟨ok0, ok1, ok2, ok3⟩ := chk_ok h.secs.len hc
  have HCp := Lib.hid (fun w1 (e : Ext w w1) => copied_any d w1 (h.on e (Nat.le_refl _)) ok1 (fun s hs => by rw [ok2 s hs]; exact Nat.le_refl _) h3 (fun x hx => by rw [(ok3 x hx).2.2]; exact Nat.le_refl _))
  have OK3 := Lib.hid ok3
  have HK := Lib.hid hk
  have HG := Lib.hid (show d.waits.n = d.wv.length by rw [Dev.wv, List.length_map]; exact h.waits.len)
  clear ok0 ok1 ok2 ok3 hc h3 h hk
  have hdw := Lib.hid (show d.wv = d.waits.xs.map Wrt.abs from rfl)
  generalize hdn : d.waits.n = dn at *
  have Hdn := Lib.hid hdn
  clear hdn
  generalize hcv : d.cells.toArray = cv at *
  have Hcv := Lib.hid hcv
  obtain ⟨v0, v1, hv⟩ : ∃ v0 v1, cv = #[v0, v1] := ⟨_, _, hcv.symm⟩
  clear hcv
  have Hv := Lib.hid hv
  subst hv
  obtain ⟨sv0, sv1⟩ : (∃ A n c, v0 = .slice A n c) ∧ ∃ A n c, v1 = .slice A n c := by
    have := Hcv.out
    simp only [Dev.cells, Sl.val, List.toArray_inj] at this
    simp at this
    exact ⟨⟨_, _, _, this.1.symm⟩, ⟨_, _, _, this.2.symm⟩⟩
  obtain ⟨A0, n0, c0, rfl⟩ := sv0
  obtain ⟨A1, n1, c1, rfl⟩ := sv1
  go_enter Tryz.func23, Tryz.ntmps23
  go_wp2_with (go_at_call 39; refine (HC.out _ (by exact blo)).mono ?_; rintro e w2 ⟨rfl, e2⟩; obtain ⟨p1, p2⟩ := bcell e2; have z2 : w.heap.size + 2 < w2.heap.size := (by have := e2.size; simp at this; omega))
  have k0 : w2.cell? ⟨w.heap.size + 1, 0, none⟩ = some (.slice A n c) := by rw [p1 _ _ (by first | (simp; done) | (simp; omega))]; go_simp
  have r0 : w2.cell? ⟨w.heap.size + 2, 0, none⟩ = some (.slice none 0 0) := by rw [p1 _ _ (by first | (simp; done) | (simp; omega))]; go_simp
  have r1 : w2.cell? ⟨w.heap.size + 2, 1, none⟩ = some (.slice none 0 0) := by rw [p1 _ _ (by first | (simp; done) | (simp; omega))]; go_simp
  have f0 : w2.frozen? ⟨w.heap.size + 2, 0, none⟩ = false := by rw [p2 _ _ (by first | (simp; done) | (simp; omega))]; go_simp
  have f1 : w2.frozen? ⟨w.heap.size + 2, 1, none⟩ = false := by rw [p2 _ _ (by first | (simp; done) | (simp; omega))]; go_simp
  have x2 : Ext w w2 := by exact blo
  clear p1 p2
  refine (HCp.out _ x2).mono ?_
  rintro e w3 ⟨⟨d', g, rfl, hs, hw, hn', ho⟩, e3⟩
  obtain ⟨⟨A', n', c', xs'⟩, ⟨B', m', k', ys'⟩⟩ := d'
  have HO := Lib.hid ho
  have HS := Lib.hid hs
  have HW := Lib.hid hw
  have HN := Lib.hid hn'
  clear ho hs hw hn'
  have x3 : Ext w w3 := x2.trans e3
  have z3 : w.heap.size + 2 < w3.heap.size := Nat.lt_of_lt_of_le z2 e3.size
  simp only [Dev.cells, Sl.val]
  go_wp2_with fail
  generalize hw4 : World.alloc w3 _ = w4
  have HB := Lib.hid (HO.out.box (w' := w4) (by simpa [Sl.val] using hw4))
  have e4 : Ext w3 w4 := by rw [← hw4]; exact (Ext.refl _).alloc _
  clear hw4
  have x4 : Ext w w4 := x3.trans e4
  have hlo : w.heap.size + 2 < w2.heap.size := z2
  have hm : m' = d.wv.length := by
    rw [← HW.out, Dev.wv, List.length_map]
    exact HO.out.wn
  have hpos : ∀ x ∈ ys', 0 ≤ x.pos ∧ x.pos < (n' : Int) := fun x hx => by
    have h1 : x.abs ∈ d.waits.xs.map Wrt.abs := by
      rw [← hdw.out, ← HW.out]
      exact List.mem_map_of_mem (f := Wrt.abs) hx
    obtain ⟨y, hy, hya⟩ := List.mem_map.1 h1
    have h2 := OK3.out y hy
    have h3 : y.pos = x.pos := congrArg Prod.fst hya
    have h4 : n' = d.secs.n := HN.out
    rw [h4, ← h3]
    exact ⟨h2.1, h2.2.1⟩
  have HSt := Lib.hid (settle_any _ w4 w2.heap.size g w3.heap.size HB.out hpos (keepB ks) (.func (.func 65) #[] #[.pointer (some ⟨w.heap.size + 1, 0, none⟩)]) 65 #[.pointer (some ⟨w.heap.size + 1, 0, none⟩)] rfl call_keep1 (fun i hi w5 hb => by
    have hx : Ext w w5 := Below.trans x4 (Below.mono hb x2.size)
    refine keep1_any w5 A n c ks (w.heap.size + 1) HK.out.len HK.out.le (Rd.at HK.out.rd hx (Nat.le_refl _)) ?_ i ?_
    · rw [Below.cell hb (show w.heap.size + 1 < w2.heap.size by omega), Below.cell (e3.trans e4) (show w.heap.size + 1 < w2.heap.size by omega)]
      exact k0
    · obtain ⟨_, a2, a3⟩ := own_le HO.out.own rfl
      have a4 : m' ≤ maxLen := Nat.le_trans a2 a3
      have a5 : i < m' := hi
      unfold maxLen at a4
      omega))
  refine HSt.out.mono ?_
  rintro e w5 ⟨rfl, ho5, hb5⟩
  have HO5 := Lib.hid ho5
  have u0 := ho5.c0
  have u1 := ho5.c1
  have ub := ho5.lt
  simp only [Sl.val] at u0 u1
  have t0 : w5.cell? ⟨w.heap.size + 2, 0, none⟩ = some (.slice none 0 0) := by rw [Below.cell hb5 hlo, Below.cell (e3.trans e4) hlo]; exact r0
  have t1 : w5.cell? ⟨w.heap.size + 2, 1, none⟩ = some (.slice none 0 0) := by rw [Below.cell hb5 hlo, Below.cell (e3.trans e4) hlo]; exact r1
  have t2 : w5.frozen? ⟨w.heap.size + 2, 0, none⟩ = false := by rw [Below.frozen hb5 hlo, Below.frozen (e3.trans e4) hlo]; exact f0
  have t3 : w5.frozen? ⟨w.heap.size + 2, 1, none⟩ = false := by rw [Below.frozen hb5 hlo, Below.frozen (e3.trans e4) hlo]; exact f1
  have x5 : Ext w w5 := Below.trans x4 (Below.mono hb5 x2.size)
  clear ho5 r0 r1 f0 f1 k0
  go_wp2_with fail
  refine bodyPost_ret (v := .tuple #[.agg #[.slice A' n' c', .slice none 0 0], .int .i64 0]) (by simp [results, Tryz.results23, go_sem, *]) rfl ⟨⟨⟨⟨A', n', c', setU (keepB ks) ys' xs' m'⟩, ⟨none, 0, 0, []⟩⟩, rfl, ?_, rfl, HN.out, ?_⟩, by exact blo⟩
  · show (setU (keepB ks) ys' xs' m').map (·.xs) = _
    rw [setU_abs, hm, HG.out, show ys'.map Wrt.abs = d.wv from HW.out, show xs'.map (·.xs) = d.secv from HS.out]
  · have := ((HO5.out.at_.at_).set_low (p := ⟨w.heap.size + 2, 0, none⟩) hlo (.slice A' n' c')).set_low (p := ⟨w.heap.size + 2, 1, none⟩) hlo (.slice none 0 0)
    have h9 := this.low x2.size
    simpa using h9
end Go.Proofs.YtfongpdeflfioaaGreat
/- device.Do. -/
namespace Go.Proofs.YtfongpdeflfioaaGreat
open Go.RowKit
set_option linter.unusedSimpArgs false
set_option linter.unusedVariables false
structure Acs (w : World) (A : Option Addr) (n c : Nat) (l : List Ac) : Prop where
  len : n = l.length
  le : n ≤ 9223372036854775807
  rd : Rd w 0 w.heap.size A (l.flatMap Ac.cells)
  all : ∀ a ∈ l, Ac.At w 0 w.heap.size a
theorem Acs.on {w w' : World} {A : Option Addr} {n c : Nat} {l : List Ac} (h : Acs w A n c l) (e : Ext w w') : Acs w' A n c l :=
  ⟨h.len, h.le, Rd.at h.rd e (Nat.le_refl _), fun a ha => ⟨(h.all a ha).p0, (h.all a ha).p1, Oct.At.on (h.all a ha).data e (Nat.le_refl _)⟩⟩
def stepV (st : List (List UInt8) × List (Int × List UInt8)) (a : Ac) : List (List UInt8) × List (Int × List UInt8) :=
  if a.flush = true then (setV (fun _ => true) st.2 st.1 st.2.length, []) else (st.1, st.2 ++ [(a.pos, a.data.xs)])
def doV (l : List Ac) (st : List (List UInt8) × List (Int × List UInt8)) : List (List UInt8) × List (Int × List UInt8) := l.foldl stepV st
theorem do1_any (w : World) (i : Int) : Calls Tryz.prog 64 #[.int .i64 i] w fun e w' => e = .returned (.bool true) ∧ Ext w w' := by
  go_enter Tryz.func64, Tryz.ntmps64
  go_wp2_with fail
  go_ret
  exact ⟨rfl, Ext.refl _⟩
theorem call_do1 : ∀ args w, (callFunc 64 args).run Tryz.prog w = .ok (.enter 64 args) w := callF Tryz.func64 (by kernel_rfl) rfl
theorem fault_ok {n : Nat} {a : Ac} (h : faultE n a = 0) (hf : a.flush = false) : 0 ≤ a.pos ∧ a.pos < (n : Int) ∧ a.data.n = 64 := by
  unfold faultE at h
  rw [hf, if_neg (by decide)] at h
  split at h
  · cases h
  · split at h
    · refine ⟨by omega, by omega, by assumption⟩
    · cases h
theorem frozen_newD {w w1 : World} {cs : Array Value} {t : TypeId} (h : w.alloc (.cells cs t) = w1) (j : Nat) : ∀ w', Ext w1 w' → w'.frozen? ⟨w.heap.size, j, none⟩ = false := fun w' e => by
  subst h
  rw [Below.frozen e (by simp)]
  have := heap_alloc_new w (.cells cs t)
  unfold World.frozen?
  rw [this]
  simp
set_option maxRecDepth 100000 in
set_option maxHeartbeats 4000000 in
theorem do_yes (d : Dev) (w : World) (h : Dev.At w 0 w.heap.size d) (hc : chkE d = 0) (A : Option Addr) (n c : Nat) (l : List Ac) (hl : Acs w A n c l) (hf : ∀ a ∈ l, faultE d.secs.n a = 0) (h3 : (d.waits.n + n) * 32 ≤ 140737488355328) :
    Calls Tryz.prog 22 #[.agg d.cells.toArray, .slice A n c] w fun e w' => (∃ d' : Dev, e = .returned (.tuple #[.agg d'.cells.toArray, .int .i64 0]) ∧ (d'.secv, d'.wv) = doV l (d.secv, d.wv) ∧ d'.secs.n = d.secs.n ∧ Dev.At w' w.heap.size w'.heap.size d') ∧ Ext w w' := by
  have HC := Lib.hid (fun w1 (e : Ext w w1) => chk_any d w1 (h.on e (Nat.le_refl _)))
  rw [hc] at HC
  obtain ⟨ok0, ok1, ok2, ok3⟩ := chk_ok h.secs.len hc
  have OK1 := Lib.hid ok1
  have HCp := Lib.hid (fun w1 (e : Ext w w1) => copied_any d w1 (h.on e (Nat.le_refl _)) ok1 (fun s hs => by rw [ok2 s hs]; exact Nat.le_refl _) (by omega) (fun x hx => by rw [(ok3 x hx).2.2]; exact Nat.le_refl _))
  have OK3 := Lib.hid ok3
  have HL := Lib.hid hl
  have HF := Lib.hid hf
  have hn63 := hl.le
  have H3 := Lib.hid h3
  have HWN := Lib.hid h.waits.len
  have HFl := Lib.hid (fun w1 (a : Ac) (ha : a ∈ l) => fault_any d a w1 (by omega) (hl.all a ha).p0 (hl.all a ha).p1 (Nat.le_trans (hl.all a ha).data.le (hl.all a ha).data.cap))
  clear ok0 ok1 ok2 ok3 hc h3 h hl hf
  obtain ⟨A0, n0, c0, A1, n1, c1, hcv⟩ : ∃ A0 n0 c0 A1 n1 c1, d.cells.toArray = #[.slice A0 n0 c0, .slice A1 n1 c1] := ⟨_, _, _, _, _, _, rfl⟩
  simp only [hcv] at *
  have Hcv := Lib.hid hcv
  clear hcv
  go_enter Tryz.func22, Tryz.ntmps22
  go_upto_region 1 with (fail)
  generalize hw1 : World.alloc w _ = w1
  obtain ⟨e1, z1, G1⟩ := box_cells hw1
  clear hw1
  generalize hw2 : World.alloc w1 _ = w2
  obtain ⟨e2, z2, G2⟩ := box_cells hw2
  have F2 := frozen_newD hw2
  clear hw2
  rw [z1] at G2 F2
  have b0 := fun w' (e : Ext w2 w') => G1 0 _ rfl w' (e2.trans e)
  have b1 := fun w' (e : Ext w2 w') => G1 1 _ rfl w' (e2.trans e)
  have r0 := G2 0 _ rfl
  have r1 := G2 1 _ rfl
  have f0 := F2 0
  have f1 := F2 1
  have Z := Lib.hid (show w2.heap.size = w.heap.size + 2 by omega)
  clear G1 G2 F2 z1 z2
  have x2 : Ext w w2 := e1.trans e2
  clear e1 e2 w1
  have y2 := Ext.refl w2
  go_wp2_with (go_at_call 39; refine (HC.out _ x2).mono ?_; rintro e w3 ⟨rfl, e3⟩)
  go_loopw [21] (fun i wr => ∃ k : Nat, k ≤ n ∧ i = .int .i64 k ∧ Ext w2 wr) (fun i _ => n - (intOf i).toNat)
  case atStart => exact ⟨0, Nat.zero_le _, rfl, e3⟩
  case round =>
    obtain ⟨k, hk, rfl, e4⟩ := hrel
    by_cases hlt : k < n
    · have hkl : k < l.length := by rw [← HL.out.len]; exact hlt
      obtain ⟨q1, q2, hA, _, hq1, G0⟩ := rd_flat (size := 3) (fun _ => rfl) (by omega) HL.out.rd hkl
      subst hA
      have HFa := Lib.hid (fun w1 => HFl.out w1 l[k] (List.getElem_mem _))
      have hfa : faultE d.secs.n l[k] = 0 := HF.out _ (List.getElem_mem _)
      simp only [hfa] at HFa
      have G : ∀ j u, l[k].cells[j]? = some u → wr.cell? ⟨q1, q2 + k * 3 + j, none⟩ = some u := fun j u hu => by rw [Below.cell (x2.trans e4) hq1]; exact G0 j u hu
      clear G0 hfa
      generalize l[k] = a at *
      obtain ⟨fl, pos, ⟨aA, an, ac, ax⟩⟩ := a
      have g0 := G 0 _ rfl
      have g1 := G 1 _ rfl
      have g2 := G 2 _ rfl
      simp only [Nat.add_zero, Sl.val] at g0 g2
      clear G
      simp only [Ac.cells, Sl.val] at HFa
      have p0 : (0 : Int) ≤ k := by omega
      have p1 : (k : Int) < n := by omega
      have zz : w.heap.size < wr.heap.size := by have := e4.size; have := Z.out; omega
      go_wp2_with (go_at_call 61; refine (HFa.out _).mono ?_; rintro e w5 ⟨rfl, e5⟩)
      go_roundw
      case rel => exact ⟨k + 1, by omega, by go_num, by exact blo⟩
      case measure => simp [intOf]; omega
    · obtain rfl : k = n := by omega
      go_wp2_with fail
      have x4 : Ext w wr := x2.trans e4
      refine (HCp.out _ x4).mono ?_
      rintro e w3 ⟨⟨d', g, rfl, hs, hw, hn', ho⟩, e6⟩
      obtain ⟨⟨A', n', c', xs'⟩, ⟨B', m', k', ys'⟩⟩ := d'
      have HO := Lib.hid ho
      have HS := Lib.hid hs
      have HW := Lib.hid hw
      have HN := Lib.hid hn'
      clear ho hs hw hn' e3
      simp only [Dev.cells, Sl.val]
      go_wp2_with fail
      generalize hw4 : World.alloc w3 _ = w4
      have HB := Lib.hid (HO.out.box (w' := w4) (by simpa [Sl.val] using hw4))
      have e7 : Ext w3 w4 := by rw [← hw4]; exact (Ext.refl _).alloc _
      clear hw4
      have e8 : Ext wr w4 := e6.trans e7
      have x5 : Ext w w4 := x4.trans e8
      have hlo : w.heap.size + 1 < wr.heap.size := by have := e4.size; have := Z.out; omega
      have hlow : w.heap.size ≤ wr.heap.size := by omega
      generalize hlog : wr.heap.size = lo at *
      have Hlog := Lib.hid hlog
      clear hlog
      have hr0 : w4.cell? ⟨w.heap.size + 1, 0, none⟩ = some (.slice none 0 0) := r0 _ (e4.trans e8)
      have hr1 : w4.cell? ⟨w.heap.size + 1, 1, none⟩ = some (.slice none 0 0) := r1 _ (e4.trans e8)
      have hf0 : w4.frozen? ⟨w.heap.size + 1, 0, none⟩ = false := f0 _ (e4.trans e8)
      have hf1 : w4.frozen? ⟨w.heap.size + 1, 1, none⟩ = false := f1 _ (e4.trans e8)
      have e8' : lo ≤ w4.heap.size := by have := e8.size; have := Hlog.out; omega
      clear r0 r1 f0 f1 b0 b1
      generalize hB : w3.heap.size = B at *
      have HpB := Lib.hid hB
      clear hB
      go_loopw [37] (fun i wx => ∃ (j : Nat) (dj : Dev), j ≤ k ∧ i = .int .i64 j ∧ Hid (Dev.OwnB wx lo g B dj) ∧ Hid ((dj.secv, dj.wv) = doV (l.take j) (d.secv, d.wv)) ∧ Hid (dj.secs.n = d.secs.n) ∧ Hid (dj.waits.n ≤ d.waits.n + j) ∧
        Hid (∀ x ∈ dj.waits.xs, 0 ≤ x.pos ∧ x.pos < (d.secs.n : Int)) ∧ Below lo w4 wx) (fun i _ => k - (intOf i).toNat)
      case atStart =>
        refine ⟨0, _, Nat.zero_le _, rfl, HB, Lib.hid (Prod.ext HS.out HW.out), HN, Lib.hid ?_, Lib.hid ?_, Below.refl _ _⟩
        · have h1 := HO.out.wn
          have h2 := congrArg List.length HW.out
          rw [Dev.wv, Dev.wv, List.length_map, List.length_map] at h2
          have h3 := HWN.out
          show m' ≤ _
          have h4 : m' = ys'.length := h1
          have h5 : ys'.length = d.waits.xs.length := h2
          omega
        · intro x hx
          have h1 : x.abs ∈ d.waits.xs.map Wrt.abs := by
            have : d.waits.xs.map Wrt.abs = ys'.map Wrt.abs := HW.out.symm
            rw [this]
            exact List.mem_map_of_mem (f := Wrt.abs) hx
          obtain ⟨y, hy, hya⟩ := List.mem_map.1 h1
          have h2 := OK3.out y hy
          have h3 : y.pos = x.pos := congrArg Prod.fst hya
          rw [← h3]
          exact ⟨h2.1, h2.2.1⟩
      case round =>
        clear e4 x4 e6 e7 e8 HB HO HS HW HN hlt
        obtain ⟨j, dj, hj, rfl, HD, HV, HN, HM, HP, eb⟩ := hrel
        have xr : Ext w wr := Below.trans x5 (Below.mono eb hlow)
        have r0 : wr.cell? ⟨w.heap.size + 1, 0, none⟩ = some (.slice none 0 0) := by rw [Below.cell eb hlo]; exact hr0
        have r1 : wr.cell? ⟨w.heap.size + 1, 1, none⟩ = some (.slice none 0 0) := by rw [Below.cell eb hlo]; exact hr1
        have f0 : wr.frozen? ⟨w.heap.size + 1, 0, none⟩ = false := by rw [Below.frozen eb hlo]; exact hf0
        have f1 : wr.frozen? ⟨w.heap.size + 1, 1, none⟩ = false := by rw [Below.frozen eb hlo]; exact hf1
        by_cases hlt : j < k
        · have hkl : j < l.length := by rw [← HL.out.len]; exact hlt
          obtain ⟨q1, q2, hA, _, hq1, G0⟩ := rd_flat (size := 3) (fun _ => rfl) (by omega) HL.out.rd hkl
          subst hA
          have HAt := Lib.hid (HL.out.all l[j] (List.getElem_mem _))
          have HFt := Lib.hid (HF.out l[j] (List.getElem_mem _))
          have htk := Lib.hid (show doV (l.take (j + 1)) (d.secv, d.wv) = stepV (doV (l.take j) (d.secv, d.wv)) l[j] by rw [List.take_succ_eq_append_getElem hkl, doV, List.foldl_append]; rfl)
          have G : ∀ j' u, l[j].cells[j']? = some u → wr.cell? ⟨q1, q2 + j * 3 + j', none⟩ = some u := fun j' u hu => by rw [Below.cell xr hq1]; exact G0 j' u hu
          clear G0
          generalize l[j] = a at *
          obtain ⟨fl, pos, s0⟩ := a
          have g0 := G 0 _ rfl
          have g1 := G 1 _ rfl
          have g2 := G 2 _ rfl
          simp only [Nat.add_zero] at g0
          clear G
          have p0 : (0 : Int) ≤ j := by omega
          have p1 : (j : Int) < k := by omega
          obtain ⟨sA, sn, sc, hsv⟩ : ∃ A n c, s0.val = .slice A n c := ⟨_, _, _, rfl⟩
          simp only [hsv] at g2
          have HSV := Lib.hid hsv
          clear hsv
          obtain ⟨⟨SA, SN, SC, SX⟩, ⟨vA, vm, vc, ws⟩⟩ := dj
          cases fl
          · obtain ⟨ff0, ff1, ff2⟩ := fault_ok HFt.out rfl
            have hgB := HD.out.gB
            have hBlt := HD.out.lt
            go_wp2_with fail
            generalize hw5 : World.alloc wr _ = w5
            obtain ⟨e9, z9, G9⟩ := box_cells hw5
            have bg1 := G9 1 _ rfl
            have bg2 := G9 2 _ rfl
            have Z9 := Lib.hid z9
            clear hw5 G9 z9
            have x9 : Ext w w5 := xr.trans e9
            have r9 := Ext.refl w5
            have HD5 := Lib.hid (HD.out.ext e9)
            have HC := Lib.hid (fun w1 (e : Ext w5 w1) => clone_any s0 w1 (Oct.At.low (Oct.At.on HAt.out.data (x9.trans e) (Nat.le_refl _)) (Nat.zero_le _)) (by rw [ff2]; omega))
            rw [HSV.out] at HC
            simp only [Sl.val] at HC
            have c1' : w5.cell? ⟨B, 1, none⟩ = some (.slice vA vm vc) := HD5.out.c1
            obtain ⟨i0, hi0, hz0, hz1, hz2⟩ := info_parts infoW
            refine rgnE (S := fun w' => w'.cell? ⟨B, 1, none⟩ = some (.slice vA vm vc) ∧ w'.cell? ⟨wr.heap.size, 1, none⟩ = some (.int .i64 pos) ∧ w'.cell? ⟨wr.heap.size, 2, none⟩ = some (.slice sA sn sc)) (by kernel_rfl) ⟨c1', bg1 _ (by exact blo), bg2 _ (by exact blo)⟩ (fun hHeld => ?_)
            refine eS 0 ?_; (try simp only [Act.put, lyA, lyB, lyC])
            refine eS 1 ?_; (try simp only [Act.put, lyA, lyB, lyC])
            refine eS 2 ?_; (try simp only [Act.put, lyA, lyB, lyC])
            refine eS 3 ?_; (try simp only [Act.put, lyA, lyB, lyC])
            refine eS 4 ?_; (try simp only [Act.put, lyA, lyB, lyC])
            refine eS 5 ?_; (try simp only [Act.put, lyA, lyB, lyC])
            refine oneE 6 rfl (by kernel_rfl) (by kernel_rfl) (fun K hK => ?_); (try go_simp)
            refine (HC.out _ (by exact blo)).mono ?_
            rintro e w6 ⟨s, rfl, hs, ho, e10⟩
            have HSs := Lib.hid hs
            have e11 : Ext w5 w6 := by exact blo
            have hB5 : B < w5.heap.size := HD5.out.lt
            clear hs
            go_wp2_with fail
            refine hK.out _ _ ⟨by rw [Below.cell e11 hB5]; exact c1', bg1 _ e11, bg2 _ e11⟩ (fun hHeld => ?_)
            clear hK K
            (try simp only [Act.put, lyA, lyB, lyC])
            refine eS 7 ?_; (try simp only [Act.put, lyA, lyB, lyC])
            refine oneE 8 rfl (by kernel_rfl) (by kernel_rfl) (fun K hK => ?_); (try go_simp)
            generalize hw7 : World.alloc w6 _ = w7
            have e12 : Ext w6 w7 := by rw [← hw7]; exact (Ext.refl _).alloc _
            have z7 : w7.heap.size = w6.heap.size + 1 := by rw [← hw7]; simp
            have HNw : Hid (Rd w7 w6.heap.size w7.heap.size (some ⟨w6.heap.size, 0, none⟩) [.int .i64 pos, s.val]) := by
              subst hw7
              have := rd_new w6 #[.int .i64 pos, s.val] 114
              rw [Hid]
              simpa [Sl.val] using this
            have e13 : Ext w5 w7 := e11.trans e12
            clear hw7
            refine hK.out _ _ ⟨by rw [Below.cell e13 hB5]; exact c1', bg1 _ e13, bg2 _ e13⟩ (fun hHeld => ?_)
            clear hK K
            (try simp only [Act.put, lyA, lyB, lyC])
            refine oneE 9 rfl (by kernel_rfl) (by kernel_rfl) (fun K hK => ?_)
            have HD7 := Lib.hid (HD5.out.ext e13)
            have hvb := fun b hb => HD.out.at_.own.lt b hb
            have hg1 : g + 1 ≤ w7.heap.size := by have := e13.size; omega
            have hvm : (vm + 1) * 32 ≤ 140737488355328 := by
              have h1 : vm ≤ d.waits.n + j := HM.out
              have h2 := H3.out
              have h3 : (vm + 1) * 32 ≤ (d.waits.n + k) * 32 := Nat.mul_le_mul_right _ (by omega)
              omega
            refine wp_append_any w7 (.tmp 45) (.tmp 52) _ rfl (g + 1) 114 i0 _ 2 32 Tryz.underlying23 hi0 hz0 hz1 hz2 rfl (by omega) (.slice vA vm vc) vm (ws.flatMap Wrt.cells) rfl HD7.out.at_.own w6.heap.size w7.heap.size (some ⟨w6.heap.size, 0, none⟩) 1 1 [.int .i64 pos, s.val] rfl rfl HNw.out
              (by intro u hu; simp only [List.mem_cons, List.not_mem_nil, or_false] at hu; rcases hu with rfl | rfl <;> rfl) (by unfold maxLen; omega) hvm hg1 ?_
            intro v4 w8 o4 hg hob
            have hcell : ∀ p : Addr, p.block < w7.heap.size → (Value.slice vA vm vc).ownBlock ≠ some p.block → w8.cell? p = w7.cell? p ∧ w8.frozen? p = w7.frozen? p := fun p hp hne =>
              ⟨World.cell?_of_block (hg.block p.block hp (fun e => hne e.symm)), World.frozen?_of_block (hg.block p.block hp (fun e => hne e.symm))⟩
            have hB7 : B < w7.heap.size := HD7.out.lt
            have hbB : w8.cell? ⟨B, 1, none⟩ = some (.slice vA vm vc) := by rw [(hcell ⟨B, 1, none⟩ hB7 HD7.out.own).1]; exact HD7.out.c1
            have hfB : w8.frozen? ⟨B, 1, none⟩ = false := by rw [(hcell ⟨B, 1, none⟩ hB7 HD7.out.own).2]; exact HD7.out.f1
            have hbox : ∀ p : Addr, p.block = wr.heap.size → w8.cell? p = w7.cell? p := fun p hp => (hcell p (by have := e13.size; have := Z9.out; omega) (fun e => by have := hvb _ e; omega)).1
            obtain ⟨A4, c4, rfl, _, _, _⟩ := own_form o4
            have hsat : Oct.At w7 w5.heap.size w7.heap.size s := Oct.At.on (Oct.At.low ho.at_ (by simp)) e12 (Nat.le_refl _)
            have HPush := Lib.hid (HD7.out.push (pos := pos) HAt.out.p0 HAt.out.p1 (s := s) (Oct.At.low hsat (by have := e9.size; omega)) (Ap.of_lt hsat fun b hb => .inr (by have := hvb b hb; have := e9.size; omega)) (Nb.of_lt hsat (.inr hB5)) o4 hg hob)
            refine hK.out _ _ ⟨hbB, by rw [hbox _ rfl]; exact bg1 _ e13, by rw [hbox _ rfl]; exact bg2 _ e13⟩ (fun hHeld => ?_)
            clear hK K
            (try simp only [Act.put, lyA, lyB, lyC])
            refine eS 10 ?_; (try simp only [Act.put, lyA, lyB, lyC])
            refine lastE 11 rfl (by kernel_rfl) (by kernel_rfl) (by kernel_rfl) (by kernel_rfl) (fun K hK => ?_); (try go_simp)
            refine hK.out _ _ ?_; clear hK K; (try simp only [Act.put, lyA, lyB, lyC])
            go_wp2_with fail
            go_roundw
            case rel =>
              refine ⟨j + 1, ⟨⟨SA, SN, SC, SX⟩, ⟨A4, vm + 1, c4, ws ++ [⟨pos, s⟩]⟩⟩, by omega, by go_num, Lib.hid HPush.out, Lib.hid ?_, HN, Lib.hid (by show vm + 1 ≤ _; have : vm ≤ d.waits.n + j := HM.out; omega), Lib.hid (fun x hx => ?_), ?_⟩
              · rw [htk.out, ← HV.out]
                show (_, (ws ++ [(⟨pos, s⟩ : Wrt)]).map Wrt.abs) = (_, ws.map Wrt.abs ++ [(pos, s0.xs)])
                rw [List.map_append, List.map_singleton]
                show (_, ws.map Wrt.abs ++ [(pos, s.xs)]) = _
                rw [HSs.out]
                rfl
              · rcases List.mem_append.1 hx with h' | h'
                · exact HP.out x h'
                · simp only [List.mem_singleton] at h'
                  subst h'
                  exact ⟨ff0, ff1⟩
              · have hb1 : Below lo w4 w7 := eb.trans (Below.mono (e9.trans e13) (by have := Hlog.out; have := eb.size; have := e8'; omega))
                have hb2 := bl_grown hb1 HD7.out.at_.own hg (show lo ≤ g + 1 by have := HD.out.at_.lo_g; omega) e8'
                exact hb2.setCell (p := ⟨B, 1, none⟩) (by show lo ≤ B; have := HD.out.at_.lo_g; omega) _
            case measure => simp [intOf]; omega
          · have hBlt := HD.out.lt
            have hlg := HD.out.at_.lo_g
            go_wp2_with fail
            generalize hw5 : World.alloc wr _ = w5
            obtain ⟨e9, z9, G9⟩ := box_cells hw5
            have bg1 := G9 1 _ rfl
            have Z9 := Lib.hid z9
            clear hw5 G9 z9
            have r9 := Ext.refl w5
            have hvm : vm ≤ maxLen := by
              obtain ⟨_, a2, a3⟩ := own_le HD.out.at_.own rfl
              exact Nat.le_trans a2 a3
            refine (settle_any _ w5 lo g B (HD.out.ext e9) (fun x hx => by have h1 := HP.out x hx; have h2 : SN = d.secs.n := HN.out; show 0 ≤ x.pos ∧ x.pos < (SN : Int); rw [h2]; exact h1) (fun _ => true) (.func (.func 64) #[] #[]) 64 #[] rfl call_do1 (fun i _ w1 _ => do1_any w1 i)).mono ?_
            rintro e w6 ⟨rfl, ho6, hb6⟩
            have HO6 := Lib.hid ho6
            have hb7 : Below lo w4 w6 := Below.trans (eb.trans (Below.mono e9 (by have := eb.size; omega))) hb6
            clear ho6
            go_wp2_with fail
            go_roundw
            case rel =>
              refine ⟨j + 1, _, by omega, by go_num, Lib.hid HO6.out, Lib.hid ?_, HN, Lib.hid (Nat.zero_le _), Lib.hid (fun x hx => by simp at hx), hb7⟩
              rw [htk.out, ← HV.out]
              show ((setU (fun _ => true) ws SX vm).map (·.xs), []) = (setV (fun _ => true) (ws.map Wrt.abs) (SX.map (·.xs)) (ws.map Wrt.abs).length, [])
              rw [setU_abs, List.length_map, show vm = ws.length from HD.out.at_.wn]
            case measure => simp [intOf]; omega
        · obtain rfl : j = k := by omega
          have HV2 := Lib.hid (show (dj.secv, dj.wv) = doV l (d.secv, d.wv) by rw [HV.out, List.take_of_length_le (by rw [← HL.out.len]; exact Nat.le_refl _)])
          obtain ⟨⟨SA, SN, SC, SX⟩, ⟨vA, vm, vc, ws⟩⟩ := dj
          have u0 : wr.cell? ⟨B, 0, none⟩ = some (.slice SA SN SC) := HD.out.c0
          have u1 : wr.cell? ⟨B, 1, none⟩ = some (.slice vA vm vc) := HD.out.c1
          have ub := HD.out.lt
          go_wp2_with fail
          refine bodyPost_ret (v := .tuple #[.agg #[.slice SA SN SC, .slice vA vm vc], .int .i64 0]) (by simp [results, Tryz.results22, go_sem, *]) rfl ⟨⟨⟨⟨SA, SN, SC, SX⟩, ⟨vA, vm, vc, ws⟩⟩, rfl, HV2.out, HN.out, ?_⟩, by exact blo⟩
          have := ((HD.out.at_.at_).set_low (p := ⟨w.heap.size + 1, 0, none⟩) hlo (.slice SA SN SC)).set_low (p := ⟨w.heap.size + 1, 1, none⟩) hlo (.slice vA vm vc)
          have h9 := this.low hlow
          simpa using h9
end Go.Proofs.YtfongpdeflfioaaGreat
/- store.Format. -/
namespace Go.Proofs.YtfongpdeflfioaaGreat
open Go.RowKit Go.Maps Go.Sort Go.Shelf
set_option linter.unusedVariables false
set_option linter.unusedSimpArgs false
section
variable {P : Program} {w0 w : World} {its : List It} {R : Ending → World → Prop} {a : Act} {fn : Func}
theorem ret_cell3 {t : TypeId} {x b p n y z : Nat} {vs : List Value} {v u : Value} (hs : (P.info? t).map (·.size) = some n) (hk : rowK P t = some true) (H : Heap w0 its w) (hres : fn.results = #[.cell x t, .tmp y, .tmp z]) (hx : a.tmps.getD x undef = .pointer (some ⟨b, p, none⟩)) (hy : a.tmps.getD y undef = v) (hz : a.tmps.getD z undef = u) (i : Nat) (hi : its[i]? = some (.box b vs)) (hl : Nat.ble (p + n) vs.length = true)
    (hd : a.defers = []) (hR : R (.returned (.tuple #[.agg ((vs.drop p).take n).toArray, v, u])) w) : bodyPost P fn R .ret a w := by
  refine ⟨hd, _, ?_, hR⟩
  have := sh_loadVar H hs hk i hi (Nat.le_of_ble_eq_true hl)
  have hx' : a.tmps[x]?.getD undef = .pointer (some ⟨b, p, none⟩) := by simpa using hx
  have hy' : a.tmps[y]?.getD undef = v := by simpa using hy
  have hz' : a.tmps[z]?.getD undef = u := by simpa using hz
  simp only [results, hres]
  simp [asAddr, hx', hy', hz', this]
end
def It.look (J : World → Prop) (lo hi : Nat) (hJ : ∀ w w' : World, (∀ A cs, Rd w lo hi A cs → Rd w' lo hi A cs) → J w → J w') : It :=
  .any (fun k => lo ≤ k ∧ k < hi) (fun w => hi ≤ w.heap.size ∧ J w) (fun w k h hk => Nat.lt_of_lt_of_le hk.2 h.1) (fun w w' hs hk h => ⟨Nat.le_trans h.1 hs, hJ w w' (fun A cs hr hn => by
    obtain ⟨b, o, e, h1, h2, h3⟩ := hr hn
    exact ⟨b, o, e, h1, h2, fun j u hu => (World.cell?_of_block (w := w) (a := ⟨b, o + j, none⟩) (hk b ⟨h1, h2⟩)).trans (h3 j u hu)⟩) h.2⟩)
theorem Heap.addLook {w0 w w' : World} {its : List It} (H : Heap w0 its w) (e : Ext w w') {J : World → Prop} {lo hi : Nat} (hJ : ∀ w w' : World, (∀ A cs, Rd w lo hi A cs → Rd w' lo hi A cs) → J w → J w') (hl : w.heap.size ≤ lo) (hh : hi ≤ w'.heap.size) (h : J w') : Heap w0 (It.look J lo hi hJ :: its) w' :=
  H.add e ⟨fun k hk => Nat.le_trans H.ext.size (Nat.le_trans hl hk.1), hh, h⟩ (fun k hk => Nat.le_trans hl hk.1)
theorem Heap.lookAt {w0 w : World} {its : List It} (H : Heap w0 its w) {J : World → Prop} {lo hi : Nat} {hJ : ∀ w w' : World, (∀ A cs, Rd w lo hi A cs → Rd w' lo hi A cs) → J w → J w'} (i : Nat) (hi' : its[i]? = some (It.look J lo hi hJ)) : hi ≤ w.heap.size ∧ J w := (H.all i _ hi').2
theorem uenc_ok (w : World) (u : Ub) (h : u.wf) (h0 : ubE u = 0) : Calls Tryz.prog 58 #[.agg u.cells.toArray] w fun e w' => ∃ A c, e = .returned (.tuple #[.slice A 64 c, .int .i64 0]) ∧ w'.ownsRow w.heap.size 5 1 (.slice A 64 c) 64 (bytes (ueB u)) ∧ Ext w w' := by
  refine (uenc_any w u h).mono ?_
  rintro e w' ⟨v, n, rfl, ho, ee⟩
  rw [h0, if_pos rfl] at ho
  have hn : n = 64 := by have := ho.1; rw [bytes_length, ueB_len, Nat.mul_one] at this; exact this.symm
  subst hn
  obtain ⟨A, c, rfl, _, _, _⟩ := own_form ho
  exact ⟨A, c, by rw [h0], ho, ee⟩
def fmtV (n : Nat) : List (List UInt8) := ((List.replicate n (zeros 64)).set 1 (ueB ⟨1, 0, 0⟩)).set 0 (ueB ⟨2, 0, 0⟩)
def FmOut (w : World) (n : Nat) (e : Ending) (w' : World) : Prop :=
  ∃ (s : Sto) (A : Option Addr), e = .returned (.tuple #[.agg s.cells.toArray, .slice A 3 3, .int .i64 0]) ∧ s.dev.secv = fmtV n ∧ s.dev.waits.n = 0 ∧ s.dev.waits.xs = [] ∧ s.dev.secs.n = n ∧ s.ub = ⟨2, 0, 0⟩ ∧ s.objs = ⟨none, 0, 0, []⟩ ∧ s.idx = ⟨none, 0, 0, []⟩ ∧ Sto.At w' w.heap.size w'.heap.size s ∧ Ext w w'
theorem all64 {d : Dev} {w : World} {lo hi : Nat} (h : Dev.At w lo hi d) (hs : ∀ s ∈ d.secv, s.length = 64) (hw : d.waits.n = 0) (h2 : 2 ≤ d.secs.n) (h8 : d.secs.n ≤ 8192) : chkE d = 0 := by
  unfold chkE
  have hx : d.waits.xs = [] := List.eq_nil_of_length_eq_zero (by rw [← h.waits.len]; exact hw)
  rw [if_neg, hx, if_neg (by simp)]
  rintro (q | q | q)
  · omega
  · omega
  · obtain ⟨s, hs1, hs2⟩ := List.any_eq_true.1 q
    have h1 := hs s.xs (List.mem_map_of_mem (f := fun s => s.xs) hs1)
    have h3 := (h.secs.all s hs1).len
    simp [oddO] at hs2
    omega
set_option maxRecDepth 100000 in
set_option maxHeartbeats 8000000 in
theorem fmt_yes (w : World) (n : Nat) (h0 : 2 ≤ n) (h1 : n ≤ 8192) : Calls Tryz.prog 51 #[.int .i64 (n : Int)] w (FmOut w n) := by
  have HU2 := Lib.hid (fun W => uenc_ok W ⟨2, 0, 0⟩ (by constructor <;> decide) (by decide))
  have HU1 := Lib.hid (fun W => uenc_ok W ⟨1, 0, 0⟩ (by constructor <;> decide) (by decide))
  have L2 := Lib.hid (ueB_len ⟨2, 0, 0⟩)
  have L1 := Lib.hid (ueB_len ⟨1, 0, 0⟩)
  have HF := Lib.hid (show fmtV n = ((List.replicate n (zeros 64)).set 1 (ueB ⟨1, 0, 0⟩)).set 0 (ueB ⟨2, 0, 0⟩) from rfl)
  generalize ueB ⟨2, 0, 0⟩ = B2 at *
  generalize ueB ⟨1, 0, 0⟩ = B1 at *
  go_enter Tryz.func51, Tryz.ntmps51
  go_upto_region 1 with fail
  generalize hwH : World.alloc w _ = w1; have HH := Lib.hid (Heap.one hwH); clear hwH
  go_wp2_with fail
  refine (new_yes w1 n h0 h1).mono ?_
  rintro e w2 ⟨⟨d, rfl, hsv, hwt, hd⟩, e2⟩
  have HHn := Lib.hid (HH.out.addLook e2 (J := fun W => Dev.At W w1.heap.size w2.heap.size d) (fun _ _ hr hh => hh.imp hr) (Nat.le_refl _) (Nat.le_refl _) hd)
  clear HH
  have HH := HHn
  clear HHn
  have HD := Lib.hid hd
  have HSV := Lib.hid (show d.secv = List.replicate n (zeros 64) from hsv)
  have HWT := Lib.hid hwt
  have hlen : d.secs.n = n := by
    have h3 := congrArg List.length HSV.out
    rw [Dev.secv, List.length_map, List.length_replicate, ← HD.out.secs.len] at h3
    exact h3
  have HLn := Lib.hid hlen
  have HE2 := Lib.hid e2
  have HCk := Lib.hid (all64 HD.out (fun s hs => by rw [HSV.out] at hs; rw [(List.mem_replicate.1 hs).2]; rfl) (by rw [HWT.out]) (by omega) (by omega))
  clear hsv hwt hd e2 hlen
  obtain ⟨⟨dA, dn, dc, dx⟩, ⟨vA, vn, vc, vx⟩⟩ := d
  simp only [Dev.cells, Sl.val]
  go_upto_region 4 with (first | (refine shl_store (HH.out.alloc _ _) sizeDev rfl rfl rfl rfl 0 rfl rfl rfl rfl ?_; clear HH; intro wS HHS; have HH := Lib.hid HHS; clear HHS))
  go_wp2_with fail
  refine (HU2.out _).mono ?_
  rintro e w3 ⟨A2, c2, rfl, hown, e3⟩
  have HHn := Lib.hid (HH.out.addRow e3 hown)
  clear HH hown e3
  have HH := HHn
  clear HHn
  go_wp2_with fail
  refine (HU1.out _).mono ?_
  rintro e w4 ⟨A1, c1, rfl, hown, e4⟩
  have HHn := Lib.hid (HH.out.addRow e4 hown)
  clear HH hown e4
  have HH := HHn
  clear HHn
  go_upto_region 7 with fail
  generalize hwA : World.alloc _ _ = w5
  have HHn := Lib.hid (HH.out.allocE hwA)
  clear HH hwA
  have HH := HHn
  clear HHn
  go_wp2_with (refine shl_load HH.out sizeDev (by kernel_rfl) rfl rfl rfl 3 rfl rfl ?_)
  have HSz := Lib.hid HH.out.ext.size
  obtain ⟨k11, k12⟩ := own_form2 (HH.out.rowAt 1 rfl)
  obtain ⟨k21, k22⟩ := own_form2 (HH.out.rowAt 2 rfl)
  have HAc := Lib.hid (show Acs w5 (some ⟨w4.heap.size, 0, none⟩) 3 3 [⟨false, 1, ⟨A1, 64, c1, B1⟩⟩, ⟨false, 0, ⟨A2, 64, c2, B2⟩⟩, ⟨true, 0, ⟨none, 0, 0, []⟩⟩] from
    ⟨rfl, by decide, (HH.out.boxRd 0 rfl).m0, fun a ha => by
      simp only [List.mem_cons, List.not_mem_nil, or_false] at ha
      rcases ha with rfl | rfl | rfl
      · exact ⟨(by show (-9223372036854775808 : Int) ≤ 1; decide), (by show (1 : Int) ≤ 9223372036854775807; decide), L1.out.symm, k11, k12, by rw [octs_flat]; exact (HH.out.rowRd 1 rfl).m0, fun _ _ => trivial⟩
      · exact ⟨(by show (-9223372036854775808 : Int) ≤ 0; decide), (by show (0 : Int) ≤ 9223372036854775807; decide), L2.out.symm, k21, k22, by rw [octs_flat]; exact (HH.out.rowRd 2 rfl).m0, fun _ _ => trivial⟩
      · exact ⟨(by show (-9223372036854775808 : Int) ≤ 0; decide), (by show (0 : Int) ≤ 9223372036854775807; decide), rfl, Nat.le_refl _, Nat.zero_le _, Rd.nil, fun _ _ => trivial⟩⟩)
  refine (do_yes ⟨⟨dA, dn, dc, dx⟩, ⟨vA, vn, vc, vx⟩⟩ w5 ((HH.out.lookAt 4 rfl).2.imp fun _ _ hr => hr.more (Nat.zero_le _) (HH.out.lookAt 4 rfl).1) HCk.out (some ⟨w4.heap.size, 0, none⟩) 3 3 _ HAc.out (fun a ha => by
      have hn2 : dn = n := HLn.out
      simp only [List.mem_cons, List.not_mem_nil, or_false] at ha
      rcases ha with rfl | rfl | rfl
      · unfold faultE; rw [if_neg (show ¬ false = true from Bool.false_ne_true), if_neg (by show ¬((1 : Int) < 0 ∨ (dn : Int) ≤ 1); omega), if_pos rfl]
      · unfold faultE; rw [if_neg (show ¬ false = true from Bool.false_ne_true), if_neg (by show ¬((0 : Int) < 0 ∨ (dn : Int) ≤ 0); omega), if_pos rfl]
      · rfl) (by have hv : (⟨vA, vn, vc, vx⟩ : Sl Wrt) = ⟨none, 0, 0, []⟩ := HWT.out; cases hv; show (0 + 3) * 32 ≤ 140737488355328; decide)).mono ?_
  rintro e w6 ⟨⟨d2, rfl, hst, hn2, hd2⟩, e6⟩
  have HHn := Lib.hid (HH.out.addLook e6 (J := fun W => Dev.At W w5.heap.size w6.heap.size d2) (fun _ _ hr hh => hh.imp hr) (Nat.le_refl _) (Nat.le_refl _) hd2)
  clear HH HAc
  have HH := HHn
  clear HHn
  have HD2 := Lib.hid hd2
  have HST := Lib.hid hst
  have HN2 := Lib.hid hn2
  clear hd2 hst hn2 e6
  obtain ⟨⟨tA, tn, tc, tx⟩, ⟨uA, un, uc, ux⟩⟩ := d2
  simp only [Dev.cells, Sl.val]
  go_wp2_with (first | (refine shl_store HH.out sizeDev rfl rfl rfl rfl 4 rfl rfl rfl rfl ?_; clear HH; intro wS HHS; have HH := Lib.hid HHS; clear HHS) | (refine shl_load HH.out sizeDev (by kernel_rfl) rfl rfl rfl 4 rfl rfl ?_) | (refine shl_store HH.out sizeSto rfl rfl rfl rfl 6 rfl rfl rfl rfl ?_; clear HH; intro wS HHS; have HH := Lib.hid HHS; clear HHS))
  refine ret_cell3 sizeSto (by kernel_rfl) HH.out rfl rfl rfl rfl 6 rfl rfl rfl ?_
  have hv : (⟨vA, vn, vc, vx⟩ : Sl Wrt) = ⟨none, 0, 0, []⟩ := HWT.out
  have h9 := HST.out
  rw [HSV.out, show Dev.wv ⟨⟨dA, dn, dc, dx⟩, ⟨vA, vn, vc, vx⟩⟩ = [] by rw [hv]; rfl] at h9
  have hsv : Dev.secv ⟨⟨tA, tn, tc, tx⟩, ⟨uA, un, uc, ux⟩⟩ = fmtV n := by rw [HF.out]; exact congrArg Prod.fst h9
  have hwv : Dev.wv ⟨⟨tA, tn, tc, tx⟩, ⟨uA, un, uc, ux⟩⟩ = [] := congrArg Prod.snd h9
  have hux : ux = [] := List.map_eq_nil_iff.1 hwv
  have hun : un = 0 := by have := HD2.out.waits.len; dsimp only at this; rw [this, hux]; rfl
  obtain ⟨q1, q2⟩ := HH.out.lookAt 0 rfl
  have hn2 : tn = n := HN2.out.trans HLn.out
  have hsz : w.heap.size ≤ w5.heap.size := HSz.out
  exact ⟨⟨⟨⟨tA, tn, tc, tx⟩, ⟨uA, un, uc, ux⟩⟩, ⟨2, 0, 0⟩, ⟨none, 0, 0, []⟩, ⟨none, 0, 0, []⟩⟩, _, rfl, hsv, hun, hux, hn2, rfl, rfl, rfl,
    ⟨q2.imp fun _ _ hr => hr.more hsz q1, show Ub.wf ⟨2, 0, 0⟩ from by constructor <;> decide, ⟨rfl, Nat.le_refl _, Nat.zero_le _, Rd.nil, fun _ h => by cases h⟩, ⟨rfl, Nat.le_refl _, Nat.zero_le _, Rd.nil, fun _ h => by cases h⟩⟩, HH.out.ext⟩
end Go.Proofs.YtfongpdeflfioaaGreat
