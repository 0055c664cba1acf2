/- The walk of DeviceOwn up to its first acts. -/
import Derived.Test.YthjpjhcbefhpbaaRgtW
namespace Go.Proofs.Ythjpjhcbefhpbaa
open Go.RowKit
set_option linter.unusedSimpArgs false
set_option linter.unusedVariables false

section
variable {P : Program} {l rest rest' rest'' : List Oper} {Q : Exit → Act → World → Prop} {md : Region.Mode} {S : World → Prop} {oi oj ok : Oper} {fuel : Nat} {listed : Array Bool} {a : Act} {w : World}
theorem twoL (i j : Nat) (hi : l.drop i = oi :: rest) (hj : l.drop j = oj :: rest') (hr : Region.ready md l.toArray listed = [i, j]) (wi : Region.wanted oi (yielded l.toArray a.tmps) = true) (wj : Region.wanted oj (yielded l.toArray a.tmps) = true)
    (h1 : ∀ K' : Act → World → Prop, Shut (∀ a w, S w → (S w → wpAnyH P md l.toArray Q S fuel (listed.setIfInBounds i true) a w) → K' a w) → Oper.wp P oi a w K' Q)
    (h2 : ∀ K' : Act → World → Prop, Shut (∀ a w, S w → (S w → wpAnyH P md l.toArray Q S fuel (listed.setIfInBounds j true) a w) → K' a w) → Oper.wp P oj a w K' Q) : wpAnyH P md l.toArray Q S (fuel + 1) listed a w :=
  wpAnyH_ready hr (by simp) (AllReadyH.cons (at_drop hi) (fun K' hK => by rw [if_pos wi]; exact h1 K' hK) (AllReadyH.cons (at_drop hj) (fun K' hK => by rw [if_pos wj]; exact h2 K' hK) AllReadyH.nil))
theorem threeL (i j k : Nat) (hi : l.drop i = oi :: rest) (hj : l.drop j = oj :: rest') (hk : l.drop k = ok :: rest'') (hr : Region.ready md l.toArray listed = [i, j, k]) (wi : Region.wanted oi (yielded l.toArray a.tmps) = true) (wj : Region.wanted oj (yielded l.toArray a.tmps) = true) (wk : Region.wanted ok (yielded l.toArray a.tmps) = true)
    (h1 : ∀ K' : Act → World → Prop, Shut (∀ a w, S w → (S w → wpAnyH P md l.toArray Q S fuel (listed.setIfInBounds i true) a w) → K' a w) → Oper.wp P oi a w K' Q)
    (h2 : ∀ K' : Act → World → Prop, Shut (∀ a w, S w → (S w → wpAnyH P md l.toArray Q S fuel (listed.setIfInBounds j true) a w) → K' a w) → Oper.wp P oj a w K' Q)
    (h3 : ∀ K' : Act → World → Prop, Shut (∀ a w, S w → (S w → wpAnyH P md l.toArray Q S fuel (listed.setIfInBounds k true) a w) → K' a w) → Oper.wp P ok a w K' Q) : wpAnyH P md l.toArray Q S (fuel + 1) listed a w :=
  wpAnyH_ready hr (by simp) (AllReadyH.cons (at_drop hi) (fun K' hK => by rw [if_pos wi]; exact h1 K' hK) (AllReadyH.cons (at_drop hj) (fun K' hK => by rw [if_pos wj]; exact h2 K' hK) (AllReadyH.cons (at_drop hk) (fun K' hK => by rw [if_pos wk]; exact h3 K' hK) AllReadyH.nil)))
end
/-- an act of which the octets lie where ok holds; a write's in a block of their own, that may be written -/
structure XF (w : World) (ok : Nat → Prop) (x : Ac) (v : AV) : Prop where
  abs : x.abs = v
  k : Ac.K w ok x
  wr : x.flush = false → ∃ g xs, x.data = ⟨some ⟨g, 0, none⟩, 64, 64, xs⟩ ∧ ok g ∧ Bx w g (bytes xs)
section
variable {w w' : World} {ok ok' : Nat → Prop} {x : Ac} {v : AV}
theorem XF.mono (h : XF w ok x v) (hk : ∀ b, ok b → ok' b) : XF w ok' x v := ⟨h.abs, h.k.mono fun b _ hb => hk b hb, fun hf => by
  obtain ⟨g, xs, h1, h2, h3⟩ := h.wr hf
  exact ⟨g, xs, h1, hk g h2, h3⟩⟩
theorem XF.keep (h : XF w ok x v) (k : Keep ok' w w') (hk : ∀ b, ok b → ok' b) : XF w' ok x v := ⟨h.abs, h.k.keep k hk, fun hf => by
  obtain ⟨g, xs, h1, h2, h3⟩ := h.wr hf
  exact ⟨g, xs, h1, h2, h3.keep k (hk g h2)⟩⟩
theorem XF.ext (h : XF w ok x v) (e : Ext w w') : XF w' ok x v := h.keep (Keep.of_ext (ok := fun _ => True) e) fun _ _ => trivial
theorem XF.of {w0 : World} (h : x.abs = v) (hat : Ac.At w w0.heap.size w.heap.size x) (hw : x.flush = false → ∃ g xs, x.data = ⟨some ⟨g, 0, none⟩, 64, 64, xs⟩ ∧ w0.heap.size ≤ g ∧ Bx w g (bytes xs)) : XF w (fun b => w0.heap.size ≤ b ∧ b < w.heap.size) x v :=
  ⟨h, Ac.At.k hat (Nat.le_refl _), fun hf => by
    obtain ⟨g, xs, h1, h2, h3⟩ := hw hf
    exact ⟨g, xs, h1, ⟨h2, h3.lt⟩, h3⟩⟩
end
def RW (w : World) (v : AV) (e : Ending) (w' : World) : Prop :=
  ∃ b : Ac, e = .returned (.agg b.cells.toArray) ∧ b.abs = v ∧ Ac.At w' w.heap.size w'.heap.size b ∧ (b.flush = false → ∃ g xs, b.data = ⟨some ⟨g, 0, none⟩, 64, 64, xs⟩ ∧ w.heap.size ≤ g ∧ Bx w' g (bytes xs))
theorem right_rw (w : World) (a : Ac) (n : Nat) (n0 : 0 < n) (n1 : n ≤ 1000) (ha : Ac.At w 0 w.heap.size a) :
    Calls Try.prog 10 #[.agg a.cells.toArray, .int .i64 (n : Int)] w fun e w' => RW w (rightV n a.abs) e w' ∧ Ext w w' := by
  obtain ⟨fl, p, o⟩ := a
  cases fl
  · refine (right_writeW w p n o ha.p0 ha.p1 n0 n1 ha.data).mono ?_
    rintro e w' ⟨rfl, hx, hr⟩
    obtain ⟨_, _, _, h4, h5⟩ := turnN p n n0
    rw [Int.add_emod_right] at h4 h5
    refine ⟨⟨⟨false, p.tmod n % n, ⟨some ⟨w.heap.size + 2, 0, none⟩, 64, 64, pad64 o.xs⟩⟩, rfl, rfl, ⟨by show -9223372036854775808 ≤ p.tmod n % n; omega, by show p.tmod n % n ≤ 9223372036854775807; omega, ?_⟩, fun _ => ⟨_, _, rfl, by omega, hr⟩⟩, hx⟩
    refine ⟨(pad64_length _).symm, Nat.le_refl _, by simp [maxLen], ?_, fun _ _ => trivial⟩
    rw [octs_flat]
    exact fun _ => ⟨_, 0, rfl, by omega, hr.lt, fun j u hu => by rw [Nat.zero_add]; exact hr.cell j u hu⟩
  · refine (right_flush w p n o).mono ?_
    rintro e w' ⟨rfl, hx⟩
    exact ⟨⟨⟨true, 0, ⟨none, 0, 0, []⟩⟩, rfl, rfl, ⟨by decide, by decide, ⟨rfl, Nat.le_refl _, Nat.zero_le _, Rd.nil, fun _ h => by simp at h⟩⟩, fun h => by cases h⟩, hx⟩
/-- two acts in variables of their own -/
def XY (w3 : World) (va vb : AV) (s9 s10 : Value) (wx : World) : Prop := ∃ (x y : Ac) (p q : Nat), s9 = .pointer (some ⟨p, 0, none⟩) ∧ s10 = .pointer (some ⟨q, 0, none⟩) ∧ Bx wx p x.cells ∧ Bx wx q y.cells ∧ p ≠ q ∧ w3.heap.size ≤ p ∧ w3.heap.size ≤ q ∧
  XF wx (fun b => w3.heap.size ≤ b ∧ b ≠ p ∧ b ≠ q) x va ∧ XF wx (fun b => w3.heap.size ≤ b ∧ b ≠ p ∧ b ≠ q) y vb ∧ Ext w3 wx
theorem box_ext {w w' : World} {cs : Array Value} {t : TypeId} (h : w.alloc (.cells cs t) = w') : Ext w w' := by rw [← h]; exact (Ext.refl _).alloc _
theorem Bx.put3 {w w' : World} {b : Nat} {u0 u1 u2 v0 v1 v2 : Value} (h : Bx w b [u0, u1, u2]) (hw : ((w.setCell ⟨b, 0, none⟩ v0).setCell ⟨b, 1, none⟩ v1).setCell ⟨b, 2, none⟩ v2 = w') : Bx w' b [v0, v1, v2] ∧ Keep (fun k => k ≠ b) w w' := by
  subst hw
  exact ⟨((h.set 0 v0).set 1 v1).set 2 v2, (((Keep.refl (fun k => k ≠ b) w).setCell (p := ⟨b, 0, none⟩) (fun h => h rfl) v0).setCell (p := ⟨b, 1, none⟩) (fun h => h rfl) v1).setCell (p := ⟨b, 2, none⟩) (fun h => h rfl) v2⟩
/-- n octets from ⟨b, o⟩ on are there and may be written -/
structure Ow (w : World) (b o n : Nat) : Prop where
  lt : b < w.heap.size
  c : ∀ j, j < n → (∃ v : Int, w.cell? ⟨b, o + j, none⟩ = some (.int .u8 v)) ∧ w.frozen? ⟨b, o + j, none⟩ = false
theorem Ow.set {w : World} {b o n : Nat} (h : Ow w b o n) (i : Nat) (v : Int) : Ow (w.setCell ⟨b, o + i, none⟩ (.int .u8 v)) b o n := by
  refine ⟨by simpa using h.lt, fun j hj => ?_⟩
  obtain ⟨⟨u, hu⟩, hf⟩ := h.c j hj
  refine ⟨?_, (World.frozen?_setCell _ _ _ _).trans hf⟩
  by_cases e : i = j
  · subst e
    exact ⟨v, World.cell?_setCell_same _ _ _ hu⟩
  · exact ⟨u, (World.cell?_setCell_other _ _ _ _ (fun h' => e (by have h2 : o + i = o + j := congrArg Addr.off h'; omega))).trans hu⟩
theorem Ow.keep {w w' : World} {b o n : Nat} {ok : Nat → Prop} (h : Ow w b o n) (k : Keep ok w w') (hb : ok b) : Ow w' b o n :=
  ⟨Nat.lt_of_lt_of_le h.lt k.size, fun j hj => by
    obtain ⟨⟨u, hu⟩, hf⟩ := h.c j hj
    exact ⟨⟨u, (k.cell (p := ⟨b, o + j, none⟩) h.lt hb).trans hu⟩, (k.frozen (p := ⟨b, o + j, none⟩) h.lt hb).trans hf⟩⟩
theorem Ow.ext {w w' : World} {b o n : Nat} (h : Ow w b o n) (e : Ext w w') : Ow w' b o n := h.keep (Keep.of_ext (ok := fun _ => True) e) trivial
theorem Bx.ow {w : World} {b : Nat} {l : List UInt8} (h : Bx w b (bytes l)) : Ow w b 0 l.length := ⟨h.lt, fun j hj => by
  have := h.cells j (.int .u8 (l[j].toNat : Int)) (by simp [bytes, List.getElem?_eq_getElem hj])
  rw [Nat.zero_add]
  exact ⟨⟨_, this.1⟩, this.2⟩⟩
theorem Wr.ow {w : World} {lo hi : Nat} {A : Option Addr} {l : List UInt8} (h : Wr w lo hi A (bytes l)) (hh : hi ≤ w.heap.size) (h0 : 0 < l.length) : ∃ b o, A = some ⟨b, o, none⟩ ∧ lo ≤ b ∧ Ow w b o l.length := by
  obtain ⟨b, o, h1, h2, h3, h4⟩ := h (fun e => by have := bytes_length l; rw [e] at this; simp at this; omega)
  refine ⟨b, o, h1, h2, by omega, fun j hj => ?_⟩
  have := h4 j (.int .u8 (l[j].toNat : Int)) (by simp [bytes, List.getElem?_eq_getElem hj])
  exact ⟨⟨_, this.1⟩, this.2⟩
theorem rightV_ok2 (n : Nat) (hn : 0 < n) (a : AV) : ((rightV n a).1 = true ∧ (rightV n a).2.2 = []) ∨ ((rightV n a).1 = false ∧ 0 ≤ (rightV n a).2.1 ∧ (rightV n a).2.1 < (n : Int) ∧ (rightV n a).2.2.length = 64) := by
  have h := rightV_ok n hn a
  unfold rightV okAV at *
  by_cases hf : a.1 = true
  · rw [if_pos hf]; exact .inl ⟨rfl, rfl⟩
  · rw [if_neg hf] at h ⊢
    rcases h with h | h
    · cases h
    · exact .inr ⟨rfl, h⟩
theorem acs_two {w w' : World} {a b : Ac} (hw : w.alloc (.cells (a.cells ++ b.cells).toArray 36) = w') (ha : Ac.At w 0 w.heap.size a) (hb : Ac.At w 0 w.heap.size b) : Acs w' (some ⟨w.heap.size, 0, none⟩) 2 2 [a, b] := by
  have e : Ext w w' := by rw [← hw]; exact (Ext.refl _).alloc _
  refine ⟨rfl, by omega, ?_, fun x hx => ?_⟩
  · subst hw
    have := rd_new w (a.cells ++ b.cells).toArray 36
    simpa using this.more (Nat.zero_le _) (Nat.le_refl _)
  · simp only [List.mem_cons, List.not_mem_nil, or_false] at hx
    rcases hx with rfl | rfl
    · exact (ha.on e (Nat.le_refl _)).low (Nat.zero_le _)
    · exact (hb.on e (Nat.le_refl _)).low (Nat.zero_le _)
set_option maxRecDepth 100000 in
set_option maxHeartbeats 16000000 in
theorem down_any (w : World) (n0 : Int) (q0 : -9223372036854775808 ≤ n0) (q1 : n0 ≤ 9223372036854775807) (a b : Ac) (ha : Ac.At w 0 w.heap.size a) (hb : Ac.At w 0 w.heap.size b) :
    Calls Try.prog 6 #[.int .i64 n0, .agg a.cells.toArray, .agg b.cells.toArray] w fun e w' => e = .returned (.bool true) ∧ Ext w w' := by
  have HA := Lib.hid ha
  have HBb := Lib.hid hb
  clear ha hb
  have HRR := Lib.hid (fun k (h0 : 0 < k) (h1 : k ≤ 1000) w1 (e : Ext w w1) => And.intro (right_rw w1 a k h0 h1 ((HA.out.on e (Nat.le_refl _)).low (Nat.zero_le _))) (right_rw w1 b k h0 h1 ((HBb.out.on e (Nat.le_refl _)).low (Nat.zero_le _))))
  obtain ⟨fa, pa, ⟨aA, an, ac, ax⟩⟩ := a
  obtain ⟨fb, pb, ⟨bA, bn, bc, bx⟩⟩ := b
  simp only [Ac.cells, Sl.val] at HRR ⊢
  go_enter Try.func6, Try.ntmps6
  go_upto_region 1 with fail
  generalize hw1 : World.alloc w _ = w1
  obtain ⟨e1, z1, G1⟩ := box_cells hw1
  clear hw1
  generalize hw2 : World.alloc w1 _ = w2
  obtain ⟨e2, z2, G2⟩ := box_cells hw2
  clear hw2
  rw [z1] at G2
  have a0 := fun w' (e : Ext w2 w') => G1 0 _ rfl w' (e2.trans e)
  have a1 := fun w' (e : Ext w2 w') => G1 1 _ rfl w' (e2.trans e)
  have a2 := fun w' (e : Ext w2 w') => G1 2 _ rfl w' (e2.trans e)
  have b0 := G2 0 _ rfl
  have b1 := G2 1 _ rfl
  have b2 := G2 2 _ rfl
  have x2 : Ext w w2 := e1.trans e2
  clear G1 G2 z1 z2 e1 e2
  go_wp2_with fail
  refine (alive_any _).mono ?_
  rintro e w3 ⟨rfl, e3⟩
  go_wp2_with fail
  refine (small_any _ _ q0 q1).mono ?_
  rintro e w4 ⟨⟨k, ⟨hk0, hk1⟩, rfl⟩, rfl⟩
  go_wp2_with fail
  refine (new_abs _ k hk0 (by omega)).mono ?_
  rintro e w4 ⟨⟨d, rfl, hs, hw, hd⟩, e4⟩
  have x4 : Ext w w4 := x2.trans (e3.trans e4)
  have HO := Lib.hid (show okV d.secv d.wv by rw [hs, hw]; exact new_ok k hk0 (by omega))
  have HS := Lib.hid hs
  have HW := Lib.hid hw
  have HD := Lib.hid hd
  clear hs hw hd
  obtain ⟨⟨A1, n1, c1, xs1⟩, ⟨B1, m1, l1, ys1⟩⟩ := d
  simp only [Dev.cells, Sl.val]
  go_upto_region 5 with (fail)
  generalize hw5 : World.alloc w4 _ = w5
  have HB := Lib.hid (Bx.new hw5)
  have e5 := box_ext hw5
  have Z5 := Lib.hid (show w5.heap.size = w4.heap.size + 1 by rw [← hw5]; simp)
  simp only at HB
  clear hw5
  have e25 : Ext w2 w5 := e3.trans (e4.trans e5)
  have x5 : Ext w w5 := x4.trans e5
  have HRa := Lib.hid (fun w1 (e : Ext w5 w1) => (HRR.out k (by omega) (by omega) w1 (x5.trans e)).1)
  have HRb := Lib.hid (fun w1 (e : Ext w5 w1) => (HRR.out k (by omega) (by omega) w1 (x5.trans e)).2)
  have HRV := Lib.hid (And.intro (rightV_ok2 k (by omega) (Ac.abs ⟨fa, pa, ⟨aA, an, ac, ax⟩⟩)) (rightV_ok2 k (by omega) (Ac.abs ⟨fb, pb, ⟨bA, bn, bc, bx⟩⟩)))
  generalize hva : rightV k (Ac.abs ⟨fa, pa, ⟨aA, an, ac, ax⟩⟩) = va at *
  generalize hvb : rightV k (Ac.abs ⟨fb, pb, ⟨bA, bn, bc, bx⟩⟩) = vb at *
  clear hva hvb
  have a0 := fun w' (e : Ext w5 w') => a0 w' (e25.trans e)
  have a1 := fun w' (e : Ext w5 w') => a1 w' (e25.trans e)
  have a2 := fun w' (e : Ext w5 w') => a2 w' (e25.trans e)
  have b0 := fun w' (e : Ext w5 w') => b0 w' (e25.trans e)
  have b1 := fun w' (e : Ext w5 w') => b1 w' (e25.trans e)
  have b2 := fun w' (e : Ext w5 w') => b2 w' (e25.trans e)
  unfold RW at HRa HRb
  clear HRR
  go_cut [9, 10] from 33 to 38 (fun s9 s10 wx => XY w5 va vb s9 s10 wx)
  case first =>
    refine wp_region_held_drew (S := fun w' => Ext w5 w') (by kernel_rfl) (by (repeat (first | exact Below.refl _ _ | exact Ext.refl _ | assumption | refine Below.drew ?_ | refine below_drewN ?_ _ | refine below_alloc ?_ (by first | exact Nat.le_refl _ | assumption | (simp; done) | omega | (simp; omega)) _ | refine below_ext ?_ (by assumption) (by first | exact Nat.le_refl _ | assumption | (simp; done) | omega | (simp; omega)) | refine Ext.drew ?_ | refine Ext.drewN ?_ _ | refine Ext.alloc ?_ _ | refine Ext.setCell ?_ (by first | assumption | (simp; done) | (simp; omega)) _ | refine Below.setCell ?_ (by first | assumption | (simp; done) | (simp; omega)) _ | refine Ext.trans ?_ (by assumption)))) (fun hHeld => ?_)
    refine takeL 0 (v := ?_) rfl (by kernel_rfl) (by kernel_rfl) (by kernel_rfl) (fun _ _ _ h => h) (by kernel_rfl) ?_ (by assumption) ?_; rotate_left; (focus (intro w hSw; (try dsimp only at hSw); go_simp <;> with_reducible rfl)); try simp only [Act.put, List.setIfInBounds_toArray, List.set_cons_zero, List.set_cons_succ]
    refine takeL 1 (v := ?_) rfl (by kernel_rfl) (by kernel_rfl) (by kernel_rfl) (fun _ _ _ h => h) (by kernel_rfl) ?_ (by assumption) ?_; rotate_left; (focus (intro w hSw; (try dsimp only at hSw); go_simp <;> with_reducible rfl)); try simp only [Act.put, List.setIfInBounds_toArray, List.set_cons_zero, List.set_cons_succ]
    refine takeL 3 (v := ?_) rfl (by kernel_rfl) (by kernel_rfl) (by kernel_rfl) (fun _ _ _ h => h) (by kernel_rfl) ?_ (by assumption) ?_; rotate_left; (focus (intro w hSw; (try dsimp only at hSw); go_simp <;> with_reducible rfl)); try simp only [Act.put, List.setIfInBounds_toArray, List.set_cons_zero, List.set_cons_succ]
    refine takeL 4 (v := ?_) rfl (by kernel_rfl) (by kernel_rfl) (by kernel_rfl) (fun _ _ _ h => h) (by kernel_rfl) ?_ (by assumption) ?_; rotate_left; (focus (intro w hSw; (try dsimp only at hSw); go_simp <;> with_reducible rfl)); try simp only [Act.put, List.setIfInBounds_toArray, List.set_cons_zero, List.set_cons_succ]
    have g0 : Ext w5 w5.drew := (Ext.refl _).drew
    generalize hwd : World.drew w5 = w6 at *
    clear hwd
    refine threeL 2 6 7 rfl rfl rfl (by kernel_rfl) (by kernel_rfl) (by kernel_rfl) (by kernel_rfl) (fun K hK => ?_) (fun K hK => ?_) (fun K hK => ?_)
    · go_simp
      refine (HRa.out w6 g0).mono ?_
      rintro e y1 ⟨⟨xv, rfl, hab, hat, hwr⟩, ez1⟩
      have HX1 := Lib.hid (XF.of hab hat hwr)
      have s1 := ez1.size
      clear hab hat hwr
      simp only [Ac.cells, Sl.val]
      go_wp2_with fail
      have g1 : Ext w5 y1 := g0.trans ez1
      refine hK.out _ _ g1 (fun hHeld => ?_)
      clear hK K
      try simp only [Act.put, List.setIfInBounds_toArray, List.set_cons_zero, List.set_cons_succ]
      refine threeL 5 6 7 rfl rfl rfl (by kernel_rfl) (by kernel_rfl) (by kernel_rfl) (by kernel_rfl) (fun K hK => ?_) (fun K hK => ?_) (fun K hK => ?_)
      · go_simp
        refine (HRb.out y1 g1).mono ?_
        rintro e y2 ⟨⟨yv, rfl, hab, hat, hwr⟩, ez2⟩
        have HY2 := Lib.hid (XF.of hab hat hwr)
        have s2 := ez2.size
        clear hab hat hwr
        simp only [Ac.cells, Sl.val]
        go_wp2_with fail
        have g2 : Ext w5 y2 := g1.trans ez2
        have HX2 := Lib.hid (HX1.out.ext ez2)
        clear HX1
        refine hK.out _ _ g2 (fun hHeld => ?_)
        clear hK K
        try simp only [Act.put, List.setIfInBounds_toArray, List.set_cons_zero, List.set_cons_succ]
        refine twoL 6 7 rfl rfl (by kernel_rfl) (by kernel_rfl) (by kernel_rfl) (fun K hK => ?_) (fun K hK => ?_)
        · go_simp
          generalize hw3 : World.alloc y2 _ = y3
          have ez3 := box_ext hw3
          have s3 : y3.heap.size = y2.heap.size + 1 := by rw [← hw3]; simp
          have HP3 := Lib.hid (Bx.new hw3)
          clear hw3
          have S3 := Lib.hid s3
          clear s3
          have g3 : Ext w5 y3 := g2.trans ez3
          have HX3 := Lib.hid (HX2.out.ext ez3)
          clear HX2
          have HY3 := Lib.hid (HY2.out.ext ez3)
          clear HY2
          refine hK.out _ _ g3 (fun hHeld => ?_)
          clear hK K
          try simp only [Act.put, List.setIfInBounds_toArray, List.set_cons_zero, List.set_cons_succ]
          refine oneL 7 rfl (by kernel_rfl) (by kernel_rfl) (fun K hK => ?_)
          go_simp
          generalize hw4 : World.alloc y3 _ = y4
          have ez4 := box_ext hw4
          have s4 : y4.heap.size = y3.heap.size + 1 := by rw [← hw4]; simp
          have HQ4 := Lib.hid (Bx.new hw4)
          clear hw4
          have S4 := Lib.hid s4
          clear s4
          have g4 : Ext w5 y4 := g3.trans ez4
          have HX4 := Lib.hid (HX3.out.ext ez4)
          clear HX3
          have HY4 := Lib.hid (HY3.out.ext ez4)
          clear HY3
          have HP4 := Lib.hid (HP3.out.ext ez4)
          clear HP3
          refine hK.out _ _ g4 (fun hHeld => ?_)
          clear hK K
          try simp only [Act.put, List.setIfInBounds_toArray, List.set_cons_zero, List.set_cons_succ]
          refine oneL 8 rfl (by kernel_rfl) (by kernel_rfl) (fun K hK => ?_)
          have q5_0 := HP4.out.cell 0 _ rfl; have q5_1 := HP4.out.cell 1 _ rfl; have q5_2 := HP4.out.cell 2 _ rfl; have t5_0 := HP4.out.frozen 0 _ rfl; have t5_1 := HP4.out.frozen 1 _ rfl; have t5_2 := HP4.out.frozen 2 _ rfl
          go_simp
          generalize hw5 : World.setCell (World.setCell (World.setCell y4 _ _) _ _) _ _ = y5
          obtain ⟨hp5, hk5⟩ := Bx.put3 HP4.out hw5
          clear hw5 q5_0 q5_1 q5_2 t5_0 t5_1 t5_2
          have HP5 := Lib.hid hp5
          have s5 := hk5.size
          have g5 : Ext w5 y5 := hk5.to_ext g4 (fun j hj => by show j ≠ y2.heap.size; have := g2.size; omega)
          have HX5 := Lib.hid (HX4.out.keep hk5 (fun j hj => by show j ≠ y2.heap.size; have := S3.out; have := S4.out; omega))
          clear HX4
          have HY5 := Lib.hid (HY4.out.keep hk5 (fun j hj => by show j ≠ y2.heap.size; have := S3.out; have := S4.out; omega))
          clear HY4
          have HQ5 := Lib.hid (HQ4.out.keep hk5 (by show y3.heap.size ≠ y2.heap.size; have := S3.out; have := S4.out; omega))
          clear HQ4
          refine hK.out _ _ g5 (fun hHeld => ?_)
          clear hK K
          try simp only [Act.put, List.setIfInBounds_toArray, List.set_cons_zero, List.set_cons_succ]
          refine oneL 9 rfl (by kernel_rfl) (by kernel_rfl) (fun K hK => ?_)
          have q6_0 := HQ5.out.cell 0 _ rfl; have q6_1 := HQ5.out.cell 1 _ rfl; have q6_2 := HQ5.out.cell 2 _ rfl; have t6_0 := HQ5.out.frozen 0 _ rfl; have t6_1 := HQ5.out.frozen 1 _ rfl; have t6_2 := HQ5.out.frozen 2 _ rfl
          go_simp
          generalize hw6 : World.setCell (World.setCell (World.setCell y5 _ _) _ _) _ _ = y6
          obtain ⟨hp6, hk6⟩ := Bx.put3 HQ5.out hw6
          clear hw6 q6_0 q6_1 q6_2 t6_0 t6_1 t6_2
          have HQ6 := Lib.hid hp6
          have s6 := hk6.size
          have g6 : Ext w5 y6 := hk6.to_ext g5 (fun j hj => by show j ≠ y3.heap.size; have := g3.size; omega)
          have HX6 := Lib.hid (HX5.out.keep hk6 (fun j hj => by show j ≠ y3.heap.size; have := S3.out; have := S4.out; omega))
          clear HX5
          have HY6 := Lib.hid (HY5.out.keep hk6 (fun j hj => by show j ≠ y3.heap.size; have := S3.out; have := S4.out; omega))
          clear HY5
          have HP6 := Lib.hid (HP5.out.keep hk6 (by show y2.heap.size ≠ y3.heap.size; have := S3.out; have := S4.out; omega))
          clear HP5
          refine hK.out _ _ g6 (fun hHeld => ?_)
          clear hK K
          try simp only [Act.put, List.setIfInBounds_toArray, List.set_cons_zero, List.set_cons_succ]
          refine wpAnyH_done (by kernel_rfl) ?_ _
          go_wp2_with fail
          go_meet
          have i1 := g2.size; have i2 := g3.size; have i3 := g0.size; have i4 := g1.size
          exact ⟨xv, yv, y2.heap.size, y3.heap.size, rfl, rfl, HP6.out, HQ6.out, (by have := S3.out; have := S4.out; omega), i1, i2, HX6.out.mono (fun j hj => ⟨by omega, by have := S3.out; have := S4.out; omega, by have := S3.out; have := S4.out; omega⟩), HY6.out.mono (fun j hj => ⟨by omega, by have := S3.out; have := S4.out; omega, by have := S3.out; have := S4.out; omega⟩), g6⟩
        · go_simp
          generalize hw7 : World.alloc y2 _ = y7
          have ez7 := box_ext hw7
          have s7 : y7.heap.size = y2.heap.size + 1 := by rw [← hw7]; simp
          have HQ7 := Lib.hid (Bx.new hw7)
          clear hw7
          have S7 := Lib.hid s7
          clear s7
          have g7 : Ext w5 y7 := g2.trans ez7
          have HX7 := Lib.hid (HX2.out.ext ez7)
          clear HX2
          have HY7 := Lib.hid (HY2.out.ext ez7)
          clear HY2
          refine hK.out _ _ g7 (fun hHeld => ?_)
          clear hK K
          try simp only [Act.put, List.setIfInBounds_toArray, List.set_cons_zero, List.set_cons_succ]
          refine oneL 6 rfl (by kernel_rfl) (by kernel_rfl) (fun K hK => ?_)
          go_simp
          generalize hw8 : World.alloc y7 _ = y8
          have ez8 := box_ext hw8
          have s8 : y8.heap.size = y7.heap.size + 1 := by rw [← hw8]; simp
          have HP8 := Lib.hid (Bx.new hw8)
          clear hw8
          have S8 := Lib.hid s8
          clear s8
          have g8 : Ext w5 y8 := g7.trans ez8
          have HX8 := Lib.hid (HX7.out.ext ez8)
          clear HX7
          have HY8 := Lib.hid (HY7.out.ext ez8)
          clear HY7
          have HQ8 := Lib.hid (HQ7.out.ext ez8)
          clear HQ7
          refine hK.out _ _ g8 (fun hHeld => ?_)
          clear hK K
          try simp only [Act.put, List.setIfInBounds_toArray, List.set_cons_zero, List.set_cons_succ]
          refine oneL 8 rfl (by kernel_rfl) (by kernel_rfl) (fun K hK => ?_)
          have q9_0 := HP8.out.cell 0 _ rfl; have q9_1 := HP8.out.cell 1 _ rfl; have q9_2 := HP8.out.cell 2 _ rfl; have t9_0 := HP8.out.frozen 0 _ rfl; have t9_1 := HP8.out.frozen 1 _ rfl; have t9_2 := HP8.out.frozen 2 _ rfl
          go_simp
          generalize hw9 : World.setCell (World.setCell (World.setCell y8 _ _) _ _) _ _ = y9
          obtain ⟨hp9, hk9⟩ := Bx.put3 HP8.out hw9
          clear hw9 q9_0 q9_1 q9_2 t9_0 t9_1 t9_2
          have HP9 := Lib.hid hp9
          have s9 := hk9.size
          have g9 : Ext w5 y9 := hk9.to_ext g8 (fun j hj => by show j ≠ y7.heap.size; have := g7.size; omega)
          have HX9 := Lib.hid (HX8.out.keep hk9 (fun j hj => by show j ≠ y7.heap.size; have := S7.out; have := S8.out; omega))
          clear HX8
          have HY9 := Lib.hid (HY8.out.keep hk9 (fun j hj => by show j ≠ y7.heap.size; have := S7.out; have := S8.out; omega))
          clear HY8
          have HQ9 := Lib.hid (HQ8.out.keep hk9 (by show y2.heap.size ≠ y7.heap.size; have := S7.out; have := S8.out; omega))
          clear HQ8
          refine hK.out _ _ g9 (fun hHeld => ?_)
          clear hK K
          try simp only [Act.put, List.setIfInBounds_toArray, List.set_cons_zero, List.set_cons_succ]
          refine oneL 9 rfl (by kernel_rfl) (by kernel_rfl) (fun K hK => ?_)
          have q10_0 := HQ9.out.cell 0 _ rfl; have q10_1 := HQ9.out.cell 1 _ rfl; have q10_2 := HQ9.out.cell 2 _ rfl; have t10_0 := HQ9.out.frozen 0 _ rfl; have t10_1 := HQ9.out.frozen 1 _ rfl; have t10_2 := HQ9.out.frozen 2 _ rfl
          go_simp
          generalize hw10 : World.setCell (World.setCell (World.setCell y9 _ _) _ _) _ _ = y10
          obtain ⟨hp10, hk10⟩ := Bx.put3 HQ9.out hw10
          clear hw10 q10_0 q10_1 q10_2 t10_0 t10_1 t10_2
          have HQ10 := Lib.hid hp10
          have s10 := hk10.size
          have g10 : Ext w5 y10 := hk10.to_ext g9 (fun j hj => by show j ≠ y2.heap.size; have := g2.size; omega)
          have HX10 := Lib.hid (HX9.out.keep hk10 (fun j hj => by show j ≠ y2.heap.size; have := S7.out; have := S8.out; omega))
          clear HX9
          have HY10 := Lib.hid (HY9.out.keep hk10 (fun j hj => by show j ≠ y2.heap.size; have := S7.out; have := S8.out; omega))
          clear HY9
          have HP10 := Lib.hid (HP9.out.keep hk10 (by show y7.heap.size ≠ y2.heap.size; have := S7.out; have := S8.out; omega))
          clear HP9
          refine hK.out _ _ g10 (fun hHeld => ?_)
          clear hK K
          try simp only [Act.put, List.setIfInBounds_toArray, List.set_cons_zero, List.set_cons_succ]
          refine wpAnyH_done (by kernel_rfl) ?_ _
          go_wp2_with fail
          go_meet
          have i1 := g7.size; have i2 := g2.size; have i3 := g0.size; have i4 := g1.size
          exact ⟨xv, yv, y7.heap.size, y2.heap.size, rfl, rfl, HP10.out, HQ10.out, (by have := S7.out; have := S8.out; omega), i1, i2, HX10.out.mono (fun j hj => ⟨by omega, by have := S7.out; have := S8.out; omega, by have := S7.out; have := S8.out; omega⟩), HY10.out.mono (fun j hj => ⟨by omega, by have := S7.out; have := S8.out; omega, by have := S7.out; have := S8.out; omega⟩), g10⟩
      · go_simp
        generalize hw11 : World.alloc y1 _ = y11
        have ez11 := box_ext hw11
        have s11 : y11.heap.size = y1.heap.size + 1 := by rw [← hw11]; simp
        have HP11 := Lib.hid (Bx.new hw11)
        clear hw11
        have S11 := Lib.hid s11
        clear s11
        have g11 : Ext w5 y11 := g1.trans ez11
        have HX11 := Lib.hid (HX1.out.ext ez11)
        clear HX1
        refine hK.out _ _ g11 (fun hHeld => ?_)
        clear hK K
        try simp only [Act.put, List.setIfInBounds_toArray, List.set_cons_zero, List.set_cons_succ]
        refine twoL 5 7 rfl rfl (by kernel_rfl) (by kernel_rfl) (by kernel_rfl) (fun K hK => ?_) (fun K hK => ?_)
        · go_simp
          refine (HRb.out y11 g11).mono ?_
          rintro e y12 ⟨⟨yv, rfl, hab, hat, hwr⟩, ez12⟩
          have HY12 := Lib.hid (XF.of hab hat hwr)
          have s12 := ez12.size
          clear hab hat hwr
          simp only [Ac.cells, Sl.val]
          go_wp2_with fail
          have g12 : Ext w5 y12 := g11.trans ez12
          have HX12 := Lib.hid (HX11.out.ext ez12)
          clear HX11
          have HP12 := Lib.hid (HP11.out.ext ez12)
          clear HP11
          refine hK.out _ _ g12 (fun hHeld => ?_)
          clear hK K
          try simp only [Act.put, List.setIfInBounds_toArray, List.set_cons_zero, List.set_cons_succ]
          refine oneL 7 rfl (by kernel_rfl) (by kernel_rfl) (fun K hK => ?_)
          go_simp
          generalize hw13 : World.alloc y12 _ = y13
          have ez13 := box_ext hw13
          have s13 : y13.heap.size = y12.heap.size + 1 := by rw [← hw13]; simp
          have HQ13 := Lib.hid (Bx.new hw13)
          clear hw13
          have S13 := Lib.hid s13
          clear s13
          have g13 : Ext w5 y13 := g12.trans ez13
          have HX13 := Lib.hid (HX12.out.ext ez13)
          clear HX12
          have HY13 := Lib.hid (HY12.out.ext ez13)
          clear HY12
          have HP13 := Lib.hid (HP12.out.ext ez13)
          clear HP12
          refine hK.out _ _ g13 (fun hHeld => ?_)
          clear hK K
          try simp only [Act.put, List.setIfInBounds_toArray, List.set_cons_zero, List.set_cons_succ]
          refine oneL 8 rfl (by kernel_rfl) (by kernel_rfl) (fun K hK => ?_)
          have q14_0 := HP13.out.cell 0 _ rfl; have q14_1 := HP13.out.cell 1 _ rfl; have q14_2 := HP13.out.cell 2 _ rfl; have t14_0 := HP13.out.frozen 0 _ rfl; have t14_1 := HP13.out.frozen 1 _ rfl; have t14_2 := HP13.out.frozen 2 _ rfl
          go_simp
          generalize hw14 : World.setCell (World.setCell (World.setCell y13 _ _) _ _) _ _ = y14
          obtain ⟨hp14, hk14⟩ := Bx.put3 HP13.out hw14
          clear hw14 q14_0 q14_1 q14_2 t14_0 t14_1 t14_2
          have HP14 := Lib.hid hp14
          have s14 := hk14.size
          have g14 : Ext w5 y14 := hk14.to_ext g13 (fun j hj => by show j ≠ y1.heap.size; have := g1.size; omega)
          have HX14 := Lib.hid (HX13.out.keep hk14 (fun j hj => by show j ≠ y1.heap.size; have := S11.out; have := S13.out; omega))
          clear HX13
          have HY14 := Lib.hid (HY13.out.keep hk14 (fun j hj => by show j ≠ y1.heap.size; have := S11.out; have := S13.out; omega))
          clear HY13
          have HQ14 := Lib.hid (HQ13.out.keep hk14 (by show y12.heap.size ≠ y1.heap.size; have := S11.out; have := S13.out; omega))
          clear HQ13
          refine hK.out _ _ g14 (fun hHeld => ?_)
          clear hK K
          try simp only [Act.put, List.setIfInBounds_toArray, List.set_cons_zero, List.set_cons_succ]
          refine oneL 9 rfl (by kernel_rfl) (by kernel_rfl) (fun K hK => ?_)
          have q15_0 := HQ14.out.cell 0 _ rfl; have q15_1 := HQ14.out.cell 1 _ rfl; have q15_2 := HQ14.out.cell 2 _ rfl; have t15_0 := HQ14.out.frozen 0 _ rfl; have t15_1 := HQ14.out.frozen 1 _ rfl; have t15_2 := HQ14.out.frozen 2 _ rfl
          go_simp
          generalize hw15 : World.setCell (World.setCell (World.setCell y14 _ _) _ _) _ _ = y15
          obtain ⟨hp15, hk15⟩ := Bx.put3 HQ14.out hw15
          clear hw15 q15_0 q15_1 q15_2 t15_0 t15_1 t15_2
          have HQ15 := Lib.hid hp15
          have s15 := hk15.size
          have g15 : Ext w5 y15 := hk15.to_ext g14 (fun j hj => by show j ≠ y12.heap.size; have := g12.size; omega)
          have HX15 := Lib.hid (HX14.out.keep hk15 (fun j hj => by show j ≠ y12.heap.size; have := S11.out; have := S13.out; omega))
          clear HX14
          have HY15 := Lib.hid (HY14.out.keep hk15 (fun j hj => by show j ≠ y12.heap.size; have := S11.out; have := S13.out; omega))
          clear HY14
          have HP15 := Lib.hid (HP14.out.keep hk15 (by show y1.heap.size ≠ y12.heap.size; have := S11.out; have := S13.out; omega))
          clear HP14
          refine hK.out _ _ g15 (fun hHeld => ?_)
          clear hK K
          try simp only [Act.put, List.setIfInBounds_toArray, List.set_cons_zero, List.set_cons_succ]
          refine wpAnyH_done (by kernel_rfl) ?_ _
          go_wp2_with fail
          go_meet
          have i1 := g1.size; have i2 := g12.size; have i3 := g0.size; have i4 := g11.size
          exact ⟨xv, yv, y1.heap.size, y12.heap.size, rfl, rfl, HP15.out, HQ15.out, (by have := S11.out; have := S13.out; omega), i1, i2, HX15.out.mono (fun j hj => ⟨by omega, by have := S11.out; have := S13.out; omega, by have := S11.out; have := S13.out; omega⟩), HY15.out.mono (fun j hj => ⟨by omega, by have := S11.out; have := S13.out; omega, by have := S11.out; have := S13.out; omega⟩), g15⟩
        · go_simp
          generalize hw16 : World.alloc y11 _ = y16
          have ez16 := box_ext hw16
          have s16 : y16.heap.size = y11.heap.size + 1 := by rw [← hw16]; simp
          have HQ16 := Lib.hid (Bx.new hw16)
          clear hw16
          have S16 := Lib.hid s16
          clear s16
          have g16 : Ext w5 y16 := g11.trans ez16
          have HX16 := Lib.hid (HX11.out.ext ez16)
          clear HX11
          have HP16 := Lib.hid (HP11.out.ext ez16)
          clear HP11
          refine hK.out _ _ g16 (fun hHeld => ?_)
          clear hK K
          try simp only [Act.put, List.setIfInBounds_toArray, List.set_cons_zero, List.set_cons_succ]
          refine oneL 5 rfl (by kernel_rfl) (by kernel_rfl) (fun K hK => ?_)
          go_simp
          refine (HRb.out y16 g16).mono ?_
          rintro e y17 ⟨⟨yv, rfl, hab, hat, hwr⟩, ez17⟩
          have HY17 := Lib.hid (XF.of hab hat hwr)
          have s17 := ez17.size
          clear hab hat hwr
          simp only [Ac.cells, Sl.val]
          go_wp2_with fail
          have g17 : Ext w5 y17 := g16.trans ez17
          have HX17 := Lib.hid (HX16.out.ext ez17)
          clear HX16
          have HP17 := Lib.hid (HP16.out.ext ez17)
          clear HP16
          have HQ17 := Lib.hid (HQ16.out.ext ez17)
          clear HQ16
          refine hK.out _ _ g17 (fun hHeld => ?_)
          clear hK K
          try simp only [Act.put, List.setIfInBounds_toArray, List.set_cons_zero, List.set_cons_succ]
          refine oneL 8 rfl (by kernel_rfl) (by kernel_rfl) (fun K hK => ?_)
          have q18_0 := HP17.out.cell 0 _ rfl; have q18_1 := HP17.out.cell 1 _ rfl; have q18_2 := HP17.out.cell 2 _ rfl; have t18_0 := HP17.out.frozen 0 _ rfl; have t18_1 := HP17.out.frozen 1 _ rfl; have t18_2 := HP17.out.frozen 2 _ rfl
          go_simp
          generalize hw18 : World.setCell (World.setCell (World.setCell y17 _ _) _ _) _ _ = y18
          obtain ⟨hp18, hk18⟩ := Bx.put3 HP17.out hw18
          clear hw18 q18_0 q18_1 q18_2 t18_0 t18_1 t18_2
          have HP18 := Lib.hid hp18
          have s18 := hk18.size
          have g18 : Ext w5 y18 := hk18.to_ext g17 (fun j hj => by show j ≠ y1.heap.size; have := g1.size; omega)
          have HX18 := Lib.hid (HX17.out.keep hk18 (fun j hj => by show j ≠ y1.heap.size; have := S11.out; have := S16.out; omega))
          clear HX17
          have HY18 := Lib.hid (HY17.out.keep hk18 (fun j hj => by show j ≠ y1.heap.size; have := S11.out; have := S16.out; omega))
          clear HY17
          have HQ18 := Lib.hid (HQ17.out.keep hk18 (by show y11.heap.size ≠ y1.heap.size; have := S11.out; have := S16.out; omega))
          clear HQ17
          refine hK.out _ _ g18 (fun hHeld => ?_)
          clear hK K
          try simp only [Act.put, List.setIfInBounds_toArray, List.set_cons_zero, List.set_cons_succ]
          refine oneL 9 rfl (by kernel_rfl) (by kernel_rfl) (fun K hK => ?_)
          have q19_0 := HQ18.out.cell 0 _ rfl; have q19_1 := HQ18.out.cell 1 _ rfl; have q19_2 := HQ18.out.cell 2 _ rfl; have t19_0 := HQ18.out.frozen 0 _ rfl; have t19_1 := HQ18.out.frozen 1 _ rfl; have t19_2 := HQ18.out.frozen 2 _ rfl
          go_simp
          generalize hw19 : World.setCell (World.setCell (World.setCell y18 _ _) _ _) _ _ = y19
          obtain ⟨hp19, hk19⟩ := Bx.put3 HQ18.out hw19
          clear hw19 q19_0 q19_1 q19_2 t19_0 t19_1 t19_2
          have HQ19 := Lib.hid hp19
          have s19 := hk19.size
          have g19 : Ext w5 y19 := hk19.to_ext g18 (fun j hj => by show j ≠ y11.heap.size; have := g11.size; omega)
          have HX19 := Lib.hid (HX18.out.keep hk19 (fun j hj => by show j ≠ y11.heap.size; have := S11.out; have := S16.out; omega))
          clear HX18
          have HY19 := Lib.hid (HY18.out.keep hk19 (fun j hj => by show j ≠ y11.heap.size; have := S11.out; have := S16.out; omega))
          clear HY18
          have HP19 := Lib.hid (HP18.out.keep hk19 (by show y1.heap.size ≠ y11.heap.size; have := S11.out; have := S16.out; omega))
          clear HP18
          refine hK.out _ _ g19 (fun hHeld => ?_)
          clear hK K
          try simp only [Act.put, List.setIfInBounds_toArray, List.set_cons_zero, List.set_cons_succ]
          refine wpAnyH_done (by kernel_rfl) ?_ _
          go_wp2_with fail
          go_meet
          have i1 := g1.size; have i2 := g11.size; have i3 := g0.size; have i4 := g16.size
          exact ⟨xv, yv, y1.heap.size, y11.heap.size, rfl, rfl, HP19.out, HQ19.out, (by have := S11.out; have := S16.out; omega), i1, i2, HX19.out.mono (fun j hj => ⟨by omega, by have := S11.out; have := S16.out; omega, by have := S11.out; have := S16.out; omega⟩), HY19.out.mono (fun j hj => ⟨by omega, by have := S11.out; have := S16.out; omega, by have := S11.out; have := S16.out; omega⟩), g19⟩
      · go_simp
        generalize hw20 : World.alloc y1 _ = y20
        have ez20 := box_ext hw20
        have s20 : y20.heap.size = y1.heap.size + 1 := by rw [← hw20]; simp
        have HQ20 := Lib.hid (Bx.new hw20)
        clear hw20
        have S20 := Lib.hid s20
        clear s20
        have g20 : Ext w5 y20 := g1.trans ez20
        have HX20 := Lib.hid (HX1.out.ext ez20)
        clear HX1
        refine hK.out _ _ g20 (fun hHeld => ?_)
        clear hK K
        try simp only [Act.put, List.setIfInBounds_toArray, List.set_cons_zero, List.set_cons_succ]
        refine twoL 5 6 rfl rfl (by kernel_rfl) (by kernel_rfl) (by kernel_rfl) (fun K hK => ?_) (fun K hK => ?_)
        · go_simp
          refine (HRb.out y20 g20).mono ?_
          rintro e y21 ⟨⟨yv, rfl, hab, hat, hwr⟩, ez21⟩
          have HY21 := Lib.hid (XF.of hab hat hwr)
          have s21 := ez21.size
          clear hab hat hwr
          simp only [Ac.cells, Sl.val]
          go_wp2_with fail
          have g21 : Ext w5 y21 := g20.trans ez21
          have HX21 := Lib.hid (HX20.out.ext ez21)
          clear HX20
          have HQ21 := Lib.hid (HQ20.out.ext ez21)
          clear HQ20
          refine hK.out _ _ g21 (fun hHeld => ?_)
          clear hK K
          try simp only [Act.put, List.setIfInBounds_toArray, List.set_cons_zero, List.set_cons_succ]
          refine oneL 6 rfl (by kernel_rfl) (by kernel_rfl) (fun K hK => ?_)
          go_simp
          generalize hw22 : World.alloc y21 _ = y22
          have ez22 := box_ext hw22
          have s22 : y22.heap.size = y21.heap.size + 1 := by rw [← hw22]; simp
          have HP22 := Lib.hid (Bx.new hw22)
          clear hw22
          have S22 := Lib.hid s22
          clear s22
          have g22 : Ext w5 y22 := g21.trans ez22
          have HX22 := Lib.hid (HX21.out.ext ez22)
          clear HX21
          have HY22 := Lib.hid (HY21.out.ext ez22)
          clear HY21
          have HQ22 := Lib.hid (HQ21.out.ext ez22)
          clear HQ21
          refine hK.out _ _ g22 (fun hHeld => ?_)
          clear hK K
          try simp only [Act.put, List.setIfInBounds_toArray, List.set_cons_zero, List.set_cons_succ]
          refine oneL 8 rfl (by kernel_rfl) (by kernel_rfl) (fun K hK => ?_)
          have q23_0 := HP22.out.cell 0 _ rfl; have q23_1 := HP22.out.cell 1 _ rfl; have q23_2 := HP22.out.cell 2 _ rfl; have t23_0 := HP22.out.frozen 0 _ rfl; have t23_1 := HP22.out.frozen 1 _ rfl; have t23_2 := HP22.out.frozen 2 _ rfl
          go_simp
          generalize hw23 : World.setCell (World.setCell (World.setCell y22 _ _) _ _) _ _ = y23
          obtain ⟨hp23, hk23⟩ := Bx.put3 HP22.out hw23
          clear hw23 q23_0 q23_1 q23_2 t23_0 t23_1 t23_2
          have HP23 := Lib.hid hp23
          have s23 := hk23.size
          have g23 : Ext w5 y23 := hk23.to_ext g22 (fun j hj => by show j ≠ y21.heap.size; have := g21.size; omega)
          have HX23 := Lib.hid (HX22.out.keep hk23 (fun j hj => by show j ≠ y21.heap.size; have := S20.out; have := S22.out; omega))
          clear HX22
          have HY23 := Lib.hid (HY22.out.keep hk23 (fun j hj => by show j ≠ y21.heap.size; have := S20.out; have := S22.out; omega))
          clear HY22
          have HQ23 := Lib.hid (HQ22.out.keep hk23 (by show y1.heap.size ≠ y21.heap.size; have := S20.out; have := S22.out; omega))
          clear HQ22
          refine hK.out _ _ g23 (fun hHeld => ?_)
          clear hK K
          try simp only [Act.put, List.setIfInBounds_toArray, List.set_cons_zero, List.set_cons_succ]
          refine oneL 9 rfl (by kernel_rfl) (by kernel_rfl) (fun K hK => ?_)
          have q24_0 := HQ23.out.cell 0 _ rfl; have q24_1 := HQ23.out.cell 1 _ rfl; have q24_2 := HQ23.out.cell 2 _ rfl; have t24_0 := HQ23.out.frozen 0 _ rfl; have t24_1 := HQ23.out.frozen 1 _ rfl; have t24_2 := HQ23.out.frozen 2 _ rfl
          go_simp
          generalize hw24 : World.setCell (World.setCell (World.setCell y23 _ _) _ _) _ _ = y24
          obtain ⟨hp24, hk24⟩ := Bx.put3 HQ23.out hw24
          clear hw24 q24_0 q24_1 q24_2 t24_0 t24_1 t24_2
          have HQ24 := Lib.hid hp24
          have s24 := hk24.size
          have g24 : Ext w5 y24 := hk24.to_ext g23 (fun j hj => by show j ≠ y1.heap.size; have := g1.size; omega)
          have HX24 := Lib.hid (HX23.out.keep hk24 (fun j hj => by show j ≠ y1.heap.size; have := S20.out; have := S22.out; omega))
          clear HX23
          have HY24 := Lib.hid (HY23.out.keep hk24 (fun j hj => by show j ≠ y1.heap.size; have := S20.out; have := S22.out; omega))
          clear HY23
          have HP24 := Lib.hid (HP23.out.keep hk24 (by show y21.heap.size ≠ y1.heap.size; have := S20.out; have := S22.out; omega))
          clear HP23
          refine hK.out _ _ g24 (fun hHeld => ?_)
          clear hK K
          try simp only [Act.put, List.setIfInBounds_toArray, List.set_cons_zero, List.set_cons_succ]
          refine wpAnyH_done (by kernel_rfl) ?_ _
          go_wp2_with fail
          go_meet
          have i1 := g21.size; have i2 := g1.size; have i3 := g0.size; have i4 := g20.size
          exact ⟨xv, yv, y21.heap.size, y1.heap.size, rfl, rfl, HP24.out, HQ24.out, (by have := S20.out; have := S22.out; omega), i1, i2, HX24.out.mono (fun j hj => ⟨by omega, by have := S20.out; have := S22.out; omega, by have := S20.out; have := S22.out; omega⟩), HY24.out.mono (fun j hj => ⟨by omega, by have := S20.out; have := S22.out; omega, by have := S20.out; have := S22.out; omega⟩), g24⟩
        · go_simp
          generalize hw25 : World.alloc y20 _ = y25
          have ez25 := box_ext hw25
          have s25 : y25.heap.size = y20.heap.size + 1 := by rw [← hw25]; simp
          have HP25 := Lib.hid (Bx.new hw25)
          clear hw25
          have S25 := Lib.hid s25
          clear s25
          have g25 : Ext w5 y25 := g20.trans ez25
          have HX25 := Lib.hid (HX20.out.ext ez25)
          clear HX20
          have HQ25 := Lib.hid (HQ20.out.ext ez25)
          clear HQ20
          refine hK.out _ _ g25 (fun hHeld => ?_)
          clear hK K
          try simp only [Act.put, List.setIfInBounds_toArray, List.set_cons_zero, List.set_cons_succ]
          refine oneL 5 rfl (by kernel_rfl) (by kernel_rfl) (fun K hK => ?_)
          go_simp
          refine (HRb.out y25 g25).mono ?_
          rintro e y26 ⟨⟨yv, rfl, hab, hat, hwr⟩, ez26⟩
          have HY26 := Lib.hid (XF.of hab hat hwr)
          have s26 := ez26.size
          clear hab hat hwr
          simp only [Ac.cells, Sl.val]
          go_wp2_with fail
          have g26 : Ext w5 y26 := g25.trans ez26
          have HX26 := Lib.hid (HX25.out.ext ez26)
          clear HX25
          have HP26 := Lib.hid (HP25.out.ext ez26)
          clear HP25
          have HQ26 := Lib.hid (HQ25.out.ext ez26)
          clear HQ25
          refine hK.out _ _ g26 (fun hHeld => ?_)
          clear hK K
          try simp only [Act.put, List.setIfInBounds_toArray, List.set_cons_zero, List.set_cons_succ]
          refine oneL 8 rfl (by kernel_rfl) (by kernel_rfl) (fun K hK => ?_)
          have q27_0 := HP26.out.cell 0 _ rfl; have q27_1 := HP26.out.cell 1 _ rfl; have q27_2 := HP26.out.cell 2 _ rfl; have t27_0 := HP26.out.frozen 0 _ rfl; have t27_1 := HP26.out.frozen 1 _ rfl; have t27_2 := HP26.out.frozen 2 _ rfl
          go_simp
          generalize hw27 : World.setCell (World.setCell (World.setCell y26 _ _) _ _) _ _ = y27
          obtain ⟨hp27, hk27⟩ := Bx.put3 HP26.out hw27
          clear hw27 q27_0 q27_1 q27_2 t27_0 t27_1 t27_2
          have HP27 := Lib.hid hp27
          have s27 := hk27.size
          have g27 : Ext w5 y27 := hk27.to_ext g26 (fun j hj => by show j ≠ y20.heap.size; have := g20.size; omega)
          have HX27 := Lib.hid (HX26.out.keep hk27 (fun j hj => by show j ≠ y20.heap.size; have := S20.out; have := S25.out; omega))
          clear HX26
          have HY27 := Lib.hid (HY26.out.keep hk27 (fun j hj => by show j ≠ y20.heap.size; have := S20.out; have := S25.out; omega))
          clear HY26
          have HQ27 := Lib.hid (HQ26.out.keep hk27 (by show y1.heap.size ≠ y20.heap.size; have := S20.out; have := S25.out; omega))
          clear HQ26
          refine hK.out _ _ g27 (fun hHeld => ?_)
          clear hK K
          try simp only [Act.put, List.setIfInBounds_toArray, List.set_cons_zero, List.set_cons_succ]
          refine oneL 9 rfl (by kernel_rfl) (by kernel_rfl) (fun K hK => ?_)
          have q28_0 := HQ27.out.cell 0 _ rfl; have q28_1 := HQ27.out.cell 1 _ rfl; have q28_2 := HQ27.out.cell 2 _ rfl; have t28_0 := HQ27.out.frozen 0 _ rfl; have t28_1 := HQ27.out.frozen 1 _ rfl; have t28_2 := HQ27.out.frozen 2 _ rfl
          go_simp
          generalize hw28 : World.setCell (World.setCell (World.setCell y27 _ _) _ _) _ _ = y28
          obtain ⟨hp28, hk28⟩ := Bx.put3 HQ27.out hw28
          clear hw28 q28_0 q28_1 q28_2 t28_0 t28_1 t28_2
          have HQ28 := Lib.hid hp28
          have s28 := hk28.size
          have g28 : Ext w5 y28 := hk28.to_ext g27 (fun j hj => by show j ≠ y1.heap.size; have := g1.size; omega)
          have HX28 := Lib.hid (HX27.out.keep hk28 (fun j hj => by show j ≠ y1.heap.size; have := S20.out; have := S25.out; omega))
          clear HX27
          have HY28 := Lib.hid (HY27.out.keep hk28 (fun j hj => by show j ≠ y1.heap.size; have := S20.out; have := S25.out; omega))
          clear HY27
          have HP28 := Lib.hid (HP27.out.keep hk28 (by show y20.heap.size ≠ y1.heap.size; have := S20.out; have := S25.out; omega))
          clear HP27
          refine hK.out _ _ g28 (fun hHeld => ?_)
          clear hK K
          try simp only [Act.put, List.setIfInBounds_toArray, List.set_cons_zero, List.set_cons_succ]
          refine wpAnyH_done (by kernel_rfl) ?_ _
          go_wp2_with fail
          go_meet
          have i1 := g20.size; have i2 := g1.size; have i3 := g0.size; have i4 := g25.size
          exact ⟨xv, yv, y20.heap.size, y1.heap.size, rfl, rfl, HP28.out, HQ28.out, (by have := S20.out; have := S25.out; omega), i1, i2, HX28.out.mono (fun j hj => ⟨by omega, by have := S20.out; have := S25.out; omega, by have := S20.out; have := S25.out; omega⟩), HY28.out.mono (fun j hj => ⟨by omega, by have := S20.out; have := S25.out; omega, by have := S20.out; have := S25.out; omega⟩), g28⟩
    · go_simp
      generalize hw29 : World.alloc w6 _ = y29
      have ez29 := box_ext hw29
      have s29 : y29.heap.size = w6.heap.size + 1 := by rw [← hw29]; simp
      have HP29 := Lib.hid (Bx.new hw29)
      clear hw29
      have S29 := Lib.hid s29
      clear s29
      have g29 : Ext w5 y29 := g0.trans ez29
      refine hK.out _ _ g29 (fun hHeld => ?_)
      clear hK K
      try simp only [Act.put, List.setIfInBounds_toArray, List.set_cons_zero, List.set_cons_succ]
      refine twoL 2 7 rfl rfl (by kernel_rfl) (by kernel_rfl) (by kernel_rfl) (fun K hK => ?_) (fun K hK => ?_)
      · go_simp
        refine (HRa.out y29 g29).mono ?_
        rintro e y30 ⟨⟨xv, rfl, hab, hat, hwr⟩, ez30⟩
        have HX30 := Lib.hid (XF.of hab hat hwr)
        have s30 := ez30.size
        clear hab hat hwr
        simp only [Ac.cells, Sl.val]
        go_wp2_with fail
        have g30 : Ext w5 y30 := g29.trans ez30
        have HP30 := Lib.hid (HP29.out.ext ez30)
        clear HP29
        refine hK.out _ _ g30 (fun hHeld => ?_)
        clear hK K
        try simp only [Act.put, List.setIfInBounds_toArray, List.set_cons_zero, List.set_cons_succ]
        refine twoL 5 7 rfl rfl (by kernel_rfl) (by kernel_rfl) (by kernel_rfl) (fun K hK => ?_) (fun K hK => ?_)
        · go_simp
          refine (HRb.out y30 g30).mono ?_
          rintro e y31 ⟨⟨yv, rfl, hab, hat, hwr⟩, ez31⟩
          have HY31 := Lib.hid (XF.of hab hat hwr)
          have s31 := ez31.size
          clear hab hat hwr
          simp only [Ac.cells, Sl.val]
          go_wp2_with fail
          have g31 : Ext w5 y31 := g30.trans ez31
          have HX31 := Lib.hid (HX30.out.ext ez31)
          clear HX30
          have HP31 := Lib.hid (HP30.out.ext ez31)
          clear HP30
          refine hK.out _ _ g31 (fun hHeld => ?_)
          clear hK K
          try simp only [Act.put, List.setIfInBounds_toArray, List.set_cons_zero, List.set_cons_succ]
          refine oneL 7 rfl (by kernel_rfl) (by kernel_rfl) (fun K hK => ?_)
          go_simp
          generalize hw32 : World.alloc y31 _ = y32
          have ez32 := box_ext hw32
          have s32 : y32.heap.size = y31.heap.size + 1 := by rw [← hw32]; simp
          have HQ32 := Lib.hid (Bx.new hw32)
          clear hw32
          have S32 := Lib.hid s32
          clear s32
          have g32 : Ext w5 y32 := g31.trans ez32
          have HX32 := Lib.hid (HX31.out.ext ez32)
          clear HX31
          have HY32 := Lib.hid (HY31.out.ext ez32)
          clear HY31
          have HP32 := Lib.hid (HP31.out.ext ez32)
          clear HP31
          refine hK.out _ _ g32 (fun hHeld => ?_)
          clear hK K
          try simp only [Act.put, List.setIfInBounds_toArray, List.set_cons_zero, List.set_cons_succ]
          refine oneL 8 rfl (by kernel_rfl) (by kernel_rfl) (fun K hK => ?_)
          have q33_0 := HP32.out.cell 0 _ rfl; have q33_1 := HP32.out.cell 1 _ rfl; have q33_2 := HP32.out.cell 2 _ rfl; have t33_0 := HP32.out.frozen 0 _ rfl; have t33_1 := HP32.out.frozen 1 _ rfl; have t33_2 := HP32.out.frozen 2 _ rfl
          go_simp
          generalize hw33 : World.setCell (World.setCell (World.setCell y32 _ _) _ _) _ _ = y33
          obtain ⟨hp33, hk33⟩ := Bx.put3 HP32.out hw33
          clear hw33 q33_0 q33_1 q33_2 t33_0 t33_1 t33_2
          have HP33 := Lib.hid hp33
          have s33 := hk33.size
          have g33 : Ext w5 y33 := hk33.to_ext g32 (fun j hj => by show j ≠ w6.heap.size; have := g0.size; omega)
          have HX33 := Lib.hid (HX32.out.keep hk33 (fun j hj => by show j ≠ w6.heap.size; have := S29.out; have := S32.out; omega))
          clear HX32
          have HY33 := Lib.hid (HY32.out.keep hk33 (fun j hj => by show j ≠ w6.heap.size; have := S29.out; have := S32.out; omega))
          clear HY32
          have HQ33 := Lib.hid (HQ32.out.keep hk33 (by show y31.heap.size ≠ w6.heap.size; have := S29.out; have := S32.out; omega))
          clear HQ32
          refine hK.out _ _ g33 (fun hHeld => ?_)
          clear hK K
          try simp only [Act.put, List.setIfInBounds_toArray, List.set_cons_zero, List.set_cons_succ]
          refine oneL 9 rfl (by kernel_rfl) (by kernel_rfl) (fun K hK => ?_)
          have q34_0 := HQ33.out.cell 0 _ rfl; have q34_1 := HQ33.out.cell 1 _ rfl; have q34_2 := HQ33.out.cell 2 _ rfl; have t34_0 := HQ33.out.frozen 0 _ rfl; have t34_1 := HQ33.out.frozen 1 _ rfl; have t34_2 := HQ33.out.frozen 2 _ rfl
          go_simp
          generalize hw34 : World.setCell (World.setCell (World.setCell y33 _ _) _ _) _ _ = y34
          obtain ⟨hp34, hk34⟩ := Bx.put3 HQ33.out hw34
          clear hw34 q34_0 q34_1 q34_2 t34_0 t34_1 t34_2
          have HQ34 := Lib.hid hp34
          have s34 := hk34.size
          have g34 : Ext w5 y34 := hk34.to_ext g33 (fun j hj => by show j ≠ y31.heap.size; have := g31.size; omega)
          have HX34 := Lib.hid (HX33.out.keep hk34 (fun j hj => by show j ≠ y31.heap.size; have := S29.out; have := S32.out; omega))
          clear HX33
          have HY34 := Lib.hid (HY33.out.keep hk34 (fun j hj => by show j ≠ y31.heap.size; have := S29.out; have := S32.out; omega))
          clear HY33
          have HP34 := Lib.hid (HP33.out.keep hk34 (by show w6.heap.size ≠ y31.heap.size; have := S29.out; have := S32.out; omega))
          clear HP33
          refine hK.out _ _ g34 (fun hHeld => ?_)
          clear hK K
          try simp only [Act.put, List.setIfInBounds_toArray, List.set_cons_zero, List.set_cons_succ]
          refine wpAnyH_done (by kernel_rfl) ?_ _
          go_wp2_with fail
          go_meet
          have i1 := g0.size; have i2 := g31.size; have i3 := g29.size; have i4 := g30.size
          exact ⟨xv, yv, w6.heap.size, y31.heap.size, rfl, rfl, HP34.out, HQ34.out, (by have := S29.out; have := S32.out; omega), i1, i2, HX34.out.mono (fun j hj => ⟨by omega, by have := S29.out; have := S32.out; omega, by have := S29.out; have := S32.out; omega⟩), HY34.out.mono (fun j hj => ⟨by omega, by have := S29.out; have := S32.out; omega, by have := S29.out; have := S32.out; omega⟩), g34⟩
        · go_simp
          generalize hw35 : World.alloc y30 _ = y35
          have ez35 := box_ext hw35
          have s35 : y35.heap.size = y30.heap.size + 1 := by rw [← hw35]; simp
          have HQ35 := Lib.hid (Bx.new hw35)
          clear hw35
          have S35 := Lib.hid s35
          clear s35
          have g35 : Ext w5 y35 := g30.trans ez35
          have HX35 := Lib.hid (HX30.out.ext ez35)
          clear HX30
          have HP35 := Lib.hid (HP30.out.ext ez35)
          clear HP30
          refine hK.out _ _ g35 (fun hHeld => ?_)
          clear hK K
          try simp only [Act.put, List.setIfInBounds_toArray, List.set_cons_zero, List.set_cons_succ]
          refine oneL 5 rfl (by kernel_rfl) (by kernel_rfl) (fun K hK => ?_)
          go_simp
          refine (HRb.out y35 g35).mono ?_
          rintro e y36 ⟨⟨yv, rfl, hab, hat, hwr⟩, ez36⟩
          have HY36 := Lib.hid (XF.of hab hat hwr)
          have s36 := ez36.size
          clear hab hat hwr
          simp only [Ac.cells, Sl.val]
          go_wp2_with fail
          have g36 : Ext w5 y36 := g35.trans ez36
          have HX36 := Lib.hid (HX35.out.ext ez36)
          clear HX35
          have HP36 := Lib.hid (HP35.out.ext ez36)
          clear HP35
          have HQ36 := Lib.hid (HQ35.out.ext ez36)
          clear HQ35
          refine hK.out _ _ g36 (fun hHeld => ?_)
          clear hK K
          try simp only [Act.put, List.setIfInBounds_toArray, List.set_cons_zero, List.set_cons_succ]
          refine oneL 8 rfl (by kernel_rfl) (by kernel_rfl) (fun K hK => ?_)
          have q37_0 := HP36.out.cell 0 _ rfl; have q37_1 := HP36.out.cell 1 _ rfl; have q37_2 := HP36.out.cell 2 _ rfl; have t37_0 := HP36.out.frozen 0 _ rfl; have t37_1 := HP36.out.frozen 1 _ rfl; have t37_2 := HP36.out.frozen 2 _ rfl
          go_simp
          generalize hw37 : World.setCell (World.setCell (World.setCell y36 _ _) _ _) _ _ = y37
          obtain ⟨hp37, hk37⟩ := Bx.put3 HP36.out hw37
          clear hw37 q37_0 q37_1 q37_2 t37_0 t37_1 t37_2
          have HP37 := Lib.hid hp37
          have s37 := hk37.size
          have g37 : Ext w5 y37 := hk37.to_ext g36 (fun j hj => by show j ≠ w6.heap.size; have := g0.size; omega)
          have HX37 := Lib.hid (HX36.out.keep hk37 (fun j hj => by show j ≠ w6.heap.size; have := S29.out; have := S35.out; omega))
          clear HX36
          have HY37 := Lib.hid (HY36.out.keep hk37 (fun j hj => by show j ≠ w6.heap.size; have := S29.out; have := S35.out; omega))
          clear HY36
          have HQ37 := Lib.hid (HQ36.out.keep hk37 (by show y30.heap.size ≠ w6.heap.size; have := S29.out; have := S35.out; omega))
          clear HQ36
          refine hK.out _ _ g37 (fun hHeld => ?_)
          clear hK K
          try simp only [Act.put, List.setIfInBounds_toArray, List.set_cons_zero, List.set_cons_succ]
          refine oneL 9 rfl (by kernel_rfl) (by kernel_rfl) (fun K hK => ?_)
          have q38_0 := HQ37.out.cell 0 _ rfl; have q38_1 := HQ37.out.cell 1 _ rfl; have q38_2 := HQ37.out.cell 2 _ rfl; have t38_0 := HQ37.out.frozen 0 _ rfl; have t38_1 := HQ37.out.frozen 1 _ rfl; have t38_2 := HQ37.out.frozen 2 _ rfl
          go_simp
          generalize hw38 : World.setCell (World.setCell (World.setCell y37 _ _) _ _) _ _ = y38
          obtain ⟨hp38, hk38⟩ := Bx.put3 HQ37.out hw38
          clear hw38 q38_0 q38_1 q38_2 t38_0 t38_1 t38_2
          have HQ38 := Lib.hid hp38
          have s38 := hk38.size
          have g38 : Ext w5 y38 := hk38.to_ext g37 (fun j hj => by show j ≠ y30.heap.size; have := g30.size; omega)
          have HX38 := Lib.hid (HX37.out.keep hk38 (fun j hj => by show j ≠ y30.heap.size; have := S29.out; have := S35.out; omega))
          clear HX37
          have HY38 := Lib.hid (HY37.out.keep hk38 (fun j hj => by show j ≠ y30.heap.size; have := S29.out; have := S35.out; omega))
          clear HY37
          have HP38 := Lib.hid (HP37.out.keep hk38 (by show w6.heap.size ≠ y30.heap.size; have := S29.out; have := S35.out; omega))
          clear HP37
          refine hK.out _ _ g38 (fun hHeld => ?_)
          clear hK K
          try simp only [Act.put, List.setIfInBounds_toArray, List.set_cons_zero, List.set_cons_succ]
          refine wpAnyH_done (by kernel_rfl) ?_ _
          go_wp2_with fail
          go_meet
          have i1 := g0.size; have i2 := g30.size; have i3 := g29.size; have i4 := g35.size
          exact ⟨xv, yv, w6.heap.size, y30.heap.size, rfl, rfl, HP38.out, HQ38.out, (by have := S29.out; have := S35.out; omega), i1, i2, HX38.out.mono (fun j hj => ⟨by omega, by have := S29.out; have := S35.out; omega, by have := S29.out; have := S35.out; omega⟩), HY38.out.mono (fun j hj => ⟨by omega, by have := S29.out; have := S35.out; omega, by have := S29.out; have := S35.out; omega⟩), g38⟩
      · go_simp
        generalize hw39 : World.alloc y29 _ = y39
        have ez39 := box_ext hw39
        have s39 : y39.heap.size = y29.heap.size + 1 := by rw [← hw39]; simp
        have HQ39 := Lib.hid (Bx.new hw39)
        clear hw39
        have S39 := Lib.hid s39
        clear s39
        have g39 : Ext w5 y39 := g29.trans ez39
        have HP39 := Lib.hid (HP29.out.ext ez39)
        clear HP29
        refine hK.out _ _ g39 (fun hHeld => ?_)
        clear hK K
        try simp only [Act.put, List.setIfInBounds_toArray, List.set_cons_zero, List.set_cons_succ]
        refine oneL 2 rfl (by kernel_rfl) (by kernel_rfl) (fun K hK => ?_)
        go_simp
        refine (HRa.out y39 g39).mono ?_
        rintro e y40 ⟨⟨xv, rfl, hab, hat, hwr⟩, ez40⟩
        have HX40 := Lib.hid (XF.of hab hat hwr)
        have s40 := ez40.size
        clear hab hat hwr
        simp only [Ac.cells, Sl.val]
        go_wp2_with fail
        have g40 : Ext w5 y40 := g39.trans ez40
        have HP40 := Lib.hid (HP39.out.ext ez40)
        clear HP39
        have HQ40 := Lib.hid (HQ39.out.ext ez40)
        clear HQ39
        refine hK.out _ _ g40 (fun hHeld => ?_)
        clear hK K
        try simp only [Act.put, List.setIfInBounds_toArray, List.set_cons_zero, List.set_cons_succ]
        refine oneL 5 rfl (by kernel_rfl) (by kernel_rfl) (fun K hK => ?_)
        go_simp
        refine (HRb.out y40 g40).mono ?_
        rintro e y41 ⟨⟨yv, rfl, hab, hat, hwr⟩, ez41⟩
        have HY41 := Lib.hid (XF.of hab hat hwr)
        have s41 := ez41.size
        clear hab hat hwr
        simp only [Ac.cells, Sl.val]
        go_wp2_with fail
        have g41 : Ext w5 y41 := g40.trans ez41
        have HX41 := Lib.hid (HX40.out.ext ez41)
        clear HX40
        have HP41 := Lib.hid (HP40.out.ext ez41)
        clear HP40
        have HQ41 := Lib.hid (HQ40.out.ext ez41)
        clear HQ40
        refine hK.out _ _ g41 (fun hHeld => ?_)
        clear hK K
        try simp only [Act.put, List.setIfInBounds_toArray, List.set_cons_zero, List.set_cons_succ]
        refine oneL 8 rfl (by kernel_rfl) (by kernel_rfl) (fun K hK => ?_)
        have q42_0 := HP41.out.cell 0 _ rfl; have q42_1 := HP41.out.cell 1 _ rfl; have q42_2 := HP41.out.cell 2 _ rfl; have t42_0 := HP41.out.frozen 0 _ rfl; have t42_1 := HP41.out.frozen 1 _ rfl; have t42_2 := HP41.out.frozen 2 _ rfl
        go_simp
        generalize hw42 : World.setCell (World.setCell (World.setCell y41 _ _) _ _) _ _ = y42
        obtain ⟨hp42, hk42⟩ := Bx.put3 HP41.out hw42
        clear hw42 q42_0 q42_1 q42_2 t42_0 t42_1 t42_2
        have HP42 := Lib.hid hp42
        have s42 := hk42.size
        have g42 : Ext w5 y42 := hk42.to_ext g41 (fun j hj => by show j ≠ w6.heap.size; have := g0.size; omega)
        have HX42 := Lib.hid (HX41.out.keep hk42 (fun j hj => by show j ≠ w6.heap.size; have := S29.out; have := S39.out; omega))
        clear HX41
        have HY42 := Lib.hid (HY41.out.keep hk42 (fun j hj => by show j ≠ w6.heap.size; have := S29.out; have := S39.out; omega))
        clear HY41
        have HQ42 := Lib.hid (HQ41.out.keep hk42 (by show y29.heap.size ≠ w6.heap.size; have := S29.out; have := S39.out; omega))
        clear HQ41
        refine hK.out _ _ g42 (fun hHeld => ?_)
        clear hK K
        try simp only [Act.put, List.setIfInBounds_toArray, List.set_cons_zero, List.set_cons_succ]
        refine oneL 9 rfl (by kernel_rfl) (by kernel_rfl) (fun K hK => ?_)
        have q43_0 := HQ42.out.cell 0 _ rfl; have q43_1 := HQ42.out.cell 1 _ rfl; have q43_2 := HQ42.out.cell 2 _ rfl; have t43_0 := HQ42.out.frozen 0 _ rfl; have t43_1 := HQ42.out.frozen 1 _ rfl; have t43_2 := HQ42.out.frozen 2 _ rfl
        go_simp
        generalize hw43 : World.setCell (World.setCell (World.setCell y42 _ _) _ _) _ _ = y43
        obtain ⟨hp43, hk43⟩ := Bx.put3 HQ42.out hw43
        clear hw43 q43_0 q43_1 q43_2 t43_0 t43_1 t43_2
        have HQ43 := Lib.hid hp43
        have s43 := hk43.size
        have g43 : Ext w5 y43 := hk43.to_ext g42 (fun j hj => by show j ≠ y29.heap.size; have := g29.size; omega)
        have HX43 := Lib.hid (HX42.out.keep hk43 (fun j hj => by show j ≠ y29.heap.size; have := S29.out; have := S39.out; omega))
        clear HX42
        have HY43 := Lib.hid (HY42.out.keep hk43 (fun j hj => by show j ≠ y29.heap.size; have := S29.out; have := S39.out; omega))
        clear HY42
        have HP43 := Lib.hid (HP42.out.keep hk43 (by show w6.heap.size ≠ y29.heap.size; have := S29.out; have := S39.out; omega))
        clear HP42
        refine hK.out _ _ g43 (fun hHeld => ?_)
        clear hK K
        try simp only [Act.put, List.setIfInBounds_toArray, List.set_cons_zero, List.set_cons_succ]
        refine wpAnyH_done (by kernel_rfl) ?_ _
        go_wp2_with fail
        go_meet
        have i1 := g0.size; have i2 := g29.size; have i3 := g39.size; have i4 := g40.size
        exact ⟨xv, yv, w6.heap.size, y29.heap.size, rfl, rfl, HP43.out, HQ43.out, (by have := S29.out; have := S39.out; omega), i1, i2, HX43.out.mono (fun j hj => ⟨by omega, by have := S29.out; have := S39.out; omega, by have := S29.out; have := S39.out; omega⟩), HY43.out.mono (fun j hj => ⟨by omega, by have := S29.out; have := S39.out; omega, by have := S29.out; have := S39.out; omega⟩), g43⟩
    · go_simp
      generalize hw44 : World.alloc w6 _ = y44
      have ez44 := box_ext hw44
      have s44 : y44.heap.size = w6.heap.size + 1 := by rw [← hw44]; simp
      have HQ44 := Lib.hid (Bx.new hw44)
      clear hw44
      have S44 := Lib.hid s44
      clear s44
      have g44 : Ext w5 y44 := g0.trans ez44
      refine hK.out _ _ g44 (fun hHeld => ?_)
      clear hK K
      try simp only [Act.put, List.setIfInBounds_toArray, List.set_cons_zero, List.set_cons_succ]
      refine twoL 2 6 rfl rfl (by kernel_rfl) (by kernel_rfl) (by kernel_rfl) (fun K hK => ?_) (fun K hK => ?_)
      · go_simp
        refine (HRa.out y44 g44).mono ?_
        rintro e y45 ⟨⟨xv, rfl, hab, hat, hwr⟩, ez45⟩
        have HX45 := Lib.hid (XF.of hab hat hwr)
        have s45 := ez45.size
        clear hab hat hwr
        simp only [Ac.cells, Sl.val]
        go_wp2_with fail
        have g45 : Ext w5 y45 := g44.trans ez45
        have HQ45 := Lib.hid (HQ44.out.ext ez45)
        clear HQ44
        refine hK.out _ _ g45 (fun hHeld => ?_)
        clear hK K
        try simp only [Act.put, List.setIfInBounds_toArray, List.set_cons_zero, List.set_cons_succ]
        refine twoL 5 6 rfl rfl (by kernel_rfl) (by kernel_rfl) (by kernel_rfl) (fun K hK => ?_) (fun K hK => ?_)
        · go_simp
          refine (HRb.out y45 g45).mono ?_
          rintro e y46 ⟨⟨yv, rfl, hab, hat, hwr⟩, ez46⟩
          have HY46 := Lib.hid (XF.of hab hat hwr)
          have s46 := ez46.size
          clear hab hat hwr
          simp only [Ac.cells, Sl.val]
          go_wp2_with fail
          have g46 : Ext w5 y46 := g45.trans ez46
          have HX46 := Lib.hid (HX45.out.ext ez46)
          clear HX45
          have HQ46 := Lib.hid (HQ45.out.ext ez46)
          clear HQ45
          refine hK.out _ _ g46 (fun hHeld => ?_)
          clear hK K
          try simp only [Act.put, List.setIfInBounds_toArray, List.set_cons_zero, List.set_cons_succ]
          refine oneL 6 rfl (by kernel_rfl) (by kernel_rfl) (fun K hK => ?_)
          go_simp
          generalize hw47 : World.alloc y46 _ = y47
          have ez47 := box_ext hw47
          have s47 : y47.heap.size = y46.heap.size + 1 := by rw [← hw47]; simp
          have HP47 := Lib.hid (Bx.new hw47)
          clear hw47
          have S47 := Lib.hid s47
          clear s47
          have g47 : Ext w5 y47 := g46.trans ez47
          have HX47 := Lib.hid (HX46.out.ext ez47)
          clear HX46
          have HY47 := Lib.hid (HY46.out.ext ez47)
          clear HY46
          have HQ47 := Lib.hid (HQ46.out.ext ez47)
          clear HQ46
          refine hK.out _ _ g47 (fun hHeld => ?_)
          clear hK K
          try simp only [Act.put, List.setIfInBounds_toArray, List.set_cons_zero, List.set_cons_succ]
          refine oneL 8 rfl (by kernel_rfl) (by kernel_rfl) (fun K hK => ?_)
          have q48_0 := HP47.out.cell 0 _ rfl; have q48_1 := HP47.out.cell 1 _ rfl; have q48_2 := HP47.out.cell 2 _ rfl; have t48_0 := HP47.out.frozen 0 _ rfl; have t48_1 := HP47.out.frozen 1 _ rfl; have t48_2 := HP47.out.frozen 2 _ rfl
          go_simp
          generalize hw48 : World.setCell (World.setCell (World.setCell y47 _ _) _ _) _ _ = y48
          obtain ⟨hp48, hk48⟩ := Bx.put3 HP47.out hw48
          clear hw48 q48_0 q48_1 q48_2 t48_0 t48_1 t48_2
          have HP48 := Lib.hid hp48
          have s48 := hk48.size
          have g48 : Ext w5 y48 := hk48.to_ext g47 (fun j hj => by show j ≠ y46.heap.size; have := g46.size; omega)
          have HX48 := Lib.hid (HX47.out.keep hk48 (fun j hj => by show j ≠ y46.heap.size; have := S44.out; have := S47.out; omega))
          clear HX47
          have HY48 := Lib.hid (HY47.out.keep hk48 (fun j hj => by show j ≠ y46.heap.size; have := S44.out; have := S47.out; omega))
          clear HY47
          have HQ48 := Lib.hid (HQ47.out.keep hk48 (by show w6.heap.size ≠ y46.heap.size; have := S44.out; have := S47.out; omega))
          clear HQ47
          refine hK.out _ _ g48 (fun hHeld => ?_)
          clear hK K
          try simp only [Act.put, List.setIfInBounds_toArray, List.set_cons_zero, List.set_cons_succ]
          refine oneL 9 rfl (by kernel_rfl) (by kernel_rfl) (fun K hK => ?_)
          have q49_0 := HQ48.out.cell 0 _ rfl; have q49_1 := HQ48.out.cell 1 _ rfl; have q49_2 := HQ48.out.cell 2 _ rfl; have t49_0 := HQ48.out.frozen 0 _ rfl; have t49_1 := HQ48.out.frozen 1 _ rfl; have t49_2 := HQ48.out.frozen 2 _ rfl
          go_simp
          generalize hw49 : World.setCell (World.setCell (World.setCell y48 _ _) _ _) _ _ = y49
          obtain ⟨hp49, hk49⟩ := Bx.put3 HQ48.out hw49
          clear hw49 q49_0 q49_1 q49_2 t49_0 t49_1 t49_2
          have HQ49 := Lib.hid hp49
          have s49 := hk49.size
          have g49 : Ext w5 y49 := hk49.to_ext g48 (fun j hj => by show j ≠ w6.heap.size; have := g0.size; omega)
          have HX49 := Lib.hid (HX48.out.keep hk49 (fun j hj => by show j ≠ w6.heap.size; have := S44.out; have := S47.out; omega))
          clear HX48
          have HY49 := Lib.hid (HY48.out.keep hk49 (fun j hj => by show j ≠ w6.heap.size; have := S44.out; have := S47.out; omega))
          clear HY48
          have HP49 := Lib.hid (HP48.out.keep hk49 (by show y46.heap.size ≠ w6.heap.size; have := S44.out; have := S47.out; omega))
          clear HP48
          refine hK.out _ _ g49 (fun hHeld => ?_)
          clear hK K
          try simp only [Act.put, List.setIfInBounds_toArray, List.set_cons_zero, List.set_cons_succ]
          refine wpAnyH_done (by kernel_rfl) ?_ _
          go_wp2_with fail
          go_meet
          have i1 := g46.size; have i2 := g0.size; have i3 := g44.size; have i4 := g45.size
          exact ⟨xv, yv, y46.heap.size, w6.heap.size, rfl, rfl, HP49.out, HQ49.out, (by have := S44.out; have := S47.out; omega), i1, i2, HX49.out.mono (fun j hj => ⟨by omega, by have := S44.out; have := S47.out; omega, by have := S44.out; have := S47.out; omega⟩), HY49.out.mono (fun j hj => ⟨by omega, by have := S44.out; have := S47.out; omega, by have := S44.out; have := S47.out; omega⟩), g49⟩
        · go_simp
          generalize hw50 : World.alloc y45 _ = y50
          have ez50 := box_ext hw50
          have s50 : y50.heap.size = y45.heap.size + 1 := by rw [← hw50]; simp
          have HP50 := Lib.hid (Bx.new hw50)
          clear hw50
          have S50 := Lib.hid s50
          clear s50
          have g50 : Ext w5 y50 := g45.trans ez50
          have HX50 := Lib.hid (HX45.out.ext ez50)
          clear HX45
          have HQ50 := Lib.hid (HQ45.out.ext ez50)
          clear HQ45
          refine hK.out _ _ g50 (fun hHeld => ?_)
          clear hK K
          try simp only [Act.put, List.setIfInBounds_toArray, List.set_cons_zero, List.set_cons_succ]
          refine oneL 5 rfl (by kernel_rfl) (by kernel_rfl) (fun K hK => ?_)
          go_simp
          refine (HRb.out y50 g50).mono ?_
          rintro e y51 ⟨⟨yv, rfl, hab, hat, hwr⟩, ez51⟩
          have HY51 := Lib.hid (XF.of hab hat hwr)
          have s51 := ez51.size
          clear hab hat hwr
          simp only [Ac.cells, Sl.val]
          go_wp2_with fail
          have g51 : Ext w5 y51 := g50.trans ez51
          have HX51 := Lib.hid (HX50.out.ext ez51)
          clear HX50
          have HP51 := Lib.hid (HP50.out.ext ez51)
          clear HP50
          have HQ51 := Lib.hid (HQ50.out.ext ez51)
          clear HQ50
          refine hK.out _ _ g51 (fun hHeld => ?_)
          clear hK K
          try simp only [Act.put, List.setIfInBounds_toArray, List.set_cons_zero, List.set_cons_succ]
          refine oneL 8 rfl (by kernel_rfl) (by kernel_rfl) (fun K hK => ?_)
          have q52_0 := HP51.out.cell 0 _ rfl; have q52_1 := HP51.out.cell 1 _ rfl; have q52_2 := HP51.out.cell 2 _ rfl; have t52_0 := HP51.out.frozen 0 _ rfl; have t52_1 := HP51.out.frozen 1 _ rfl; have t52_2 := HP51.out.frozen 2 _ rfl
          go_simp
          generalize hw52 : World.setCell (World.setCell (World.setCell y51 _ _) _ _) _ _ = y52
          obtain ⟨hp52, hk52⟩ := Bx.put3 HP51.out hw52
          clear hw52 q52_0 q52_1 q52_2 t52_0 t52_1 t52_2
          have HP52 := Lib.hid hp52
          have s52 := hk52.size
          have g52 : Ext w5 y52 := hk52.to_ext g51 (fun j hj => by show j ≠ y45.heap.size; have := g45.size; omega)
          have HX52 := Lib.hid (HX51.out.keep hk52 (fun j hj => by show j ≠ y45.heap.size; have := S44.out; have := S50.out; omega))
          clear HX51
          have HY52 := Lib.hid (HY51.out.keep hk52 (fun j hj => by show j ≠ y45.heap.size; have := S44.out; have := S50.out; omega))
          clear HY51
          have HQ52 := Lib.hid (HQ51.out.keep hk52 (by show w6.heap.size ≠ y45.heap.size; have := S44.out; have := S50.out; omega))
          clear HQ51
          refine hK.out _ _ g52 (fun hHeld => ?_)
          clear hK K
          try simp only [Act.put, List.setIfInBounds_toArray, List.set_cons_zero, List.set_cons_succ]
          refine oneL 9 rfl (by kernel_rfl) (by kernel_rfl) (fun K hK => ?_)
          have q53_0 := HQ52.out.cell 0 _ rfl; have q53_1 := HQ52.out.cell 1 _ rfl; have q53_2 := HQ52.out.cell 2 _ rfl; have t53_0 := HQ52.out.frozen 0 _ rfl; have t53_1 := HQ52.out.frozen 1 _ rfl; have t53_2 := HQ52.out.frozen 2 _ rfl
          go_simp
          generalize hw53 : World.setCell (World.setCell (World.setCell y52 _ _) _ _) _ _ = y53
          obtain ⟨hp53, hk53⟩ := Bx.put3 HQ52.out hw53
          clear hw53 q53_0 q53_1 q53_2 t53_0 t53_1 t53_2
          have HQ53 := Lib.hid hp53
          have s53 := hk53.size
          have g53 : Ext w5 y53 := hk53.to_ext g52 (fun j hj => by show j ≠ w6.heap.size; have := g0.size; omega)
          have HX53 := Lib.hid (HX52.out.keep hk53 (fun j hj => by show j ≠ w6.heap.size; have := S44.out; have := S50.out; omega))
          clear HX52
          have HY53 := Lib.hid (HY52.out.keep hk53 (fun j hj => by show j ≠ w6.heap.size; have := S44.out; have := S50.out; omega))
          clear HY52
          have HP53 := Lib.hid (HP52.out.keep hk53 (by show y45.heap.size ≠ w6.heap.size; have := S44.out; have := S50.out; omega))
          clear HP52
          refine hK.out _ _ g53 (fun hHeld => ?_)
          clear hK K
          try simp only [Act.put, List.setIfInBounds_toArray, List.set_cons_zero, List.set_cons_succ]
          refine wpAnyH_done (by kernel_rfl) ?_ _
          go_wp2_with fail
          go_meet
          have i1 := g45.size; have i2 := g0.size; have i3 := g44.size; have i4 := g50.size
          exact ⟨xv, yv, y45.heap.size, w6.heap.size, rfl, rfl, HP53.out, HQ53.out, (by have := S44.out; have := S50.out; omega), i1, i2, HX53.out.mono (fun j hj => ⟨by omega, by have := S44.out; have := S50.out; omega, by have := S44.out; have := S50.out; omega⟩), HY53.out.mono (fun j hj => ⟨by omega, by have := S44.out; have := S50.out; omega, by have := S44.out; have := S50.out; omega⟩), g53⟩
      · go_simp
        generalize hw54 : World.alloc y44 _ = y54
        have ez54 := box_ext hw54
        have s54 : y54.heap.size = y44.heap.size + 1 := by rw [← hw54]; simp
        have HP54 := Lib.hid (Bx.new hw54)
        clear hw54
        have S54 := Lib.hid s54
        clear s54
        have g54 : Ext w5 y54 := g44.trans ez54
        have HQ54 := Lib.hid (HQ44.out.ext ez54)
        clear HQ44
        refine hK.out _ _ g54 (fun hHeld => ?_)
        clear hK K
        try simp only [Act.put, List.setIfInBounds_toArray, List.set_cons_zero, List.set_cons_succ]
        refine oneL 2 rfl (by kernel_rfl) (by kernel_rfl) (fun K hK => ?_)
        go_simp
        refine (HRa.out y54 g54).mono ?_
        rintro e y55 ⟨⟨xv, rfl, hab, hat, hwr⟩, ez55⟩
        have HX55 := Lib.hid (XF.of hab hat hwr)
        have s55 := ez55.size
        clear hab hat hwr
        simp only [Ac.cells, Sl.val]
        go_wp2_with fail
        have g55 : Ext w5 y55 := g54.trans ez55
        have HP55 := Lib.hid (HP54.out.ext ez55)
        clear HP54
        have HQ55 := Lib.hid (HQ54.out.ext ez55)
        clear HQ54
        refine hK.out _ _ g55 (fun hHeld => ?_)
        clear hK K
        try simp only [Act.put, List.setIfInBounds_toArray, List.set_cons_zero, List.set_cons_succ]
        refine oneL 5 rfl (by kernel_rfl) (by kernel_rfl) (fun K hK => ?_)
        go_simp
        refine (HRb.out y55 g55).mono ?_
        rintro e y56 ⟨⟨yv, rfl, hab, hat, hwr⟩, ez56⟩
        have HY56 := Lib.hid (XF.of hab hat hwr)
        have s56 := ez56.size
        clear hab hat hwr
        simp only [Ac.cells, Sl.val]
        go_wp2_with fail
        have g56 : Ext w5 y56 := g55.trans ez56
        have HX56 := Lib.hid (HX55.out.ext ez56)
        clear HX55
        have HP56 := Lib.hid (HP55.out.ext ez56)
        clear HP55
        have HQ56 := Lib.hid (HQ55.out.ext ez56)
        clear HQ55
        refine hK.out _ _ g56 (fun hHeld => ?_)
        clear hK K
        try simp only [Act.put, List.setIfInBounds_toArray, List.set_cons_zero, List.set_cons_succ]
        refine oneL 8 rfl (by kernel_rfl) (by kernel_rfl) (fun K hK => ?_)
        have q57_0 := HP56.out.cell 0 _ rfl; have q57_1 := HP56.out.cell 1 _ rfl; have q57_2 := HP56.out.cell 2 _ rfl; have t57_0 := HP56.out.frozen 0 _ rfl; have t57_1 := HP56.out.frozen 1 _ rfl; have t57_2 := HP56.out.frozen 2 _ rfl
        go_simp
        generalize hw57 : World.setCell (World.setCell (World.setCell y56 _ _) _ _) _ _ = y57
        obtain ⟨hp57, hk57⟩ := Bx.put3 HP56.out hw57
        clear hw57 q57_0 q57_1 q57_2 t57_0 t57_1 t57_2
        have HP57 := Lib.hid hp57
        have s57 := hk57.size
        have g57 : Ext w5 y57 := hk57.to_ext g56 (fun j hj => by show j ≠ y44.heap.size; have := g44.size; omega)
        have HX57 := Lib.hid (HX56.out.keep hk57 (fun j hj => by show j ≠ y44.heap.size; have := S44.out; have := S54.out; omega))
        clear HX56
        have HY57 := Lib.hid (HY56.out.keep hk57 (fun j hj => by show j ≠ y44.heap.size; have := S44.out; have := S54.out; omega))
        clear HY56
        have HQ57 := Lib.hid (HQ56.out.keep hk57 (by show w6.heap.size ≠ y44.heap.size; have := S44.out; have := S54.out; omega))
        clear HQ56
        refine hK.out _ _ g57 (fun hHeld => ?_)
        clear hK K
        try simp only [Act.put, List.setIfInBounds_toArray, List.set_cons_zero, List.set_cons_succ]
        refine oneL 9 rfl (by kernel_rfl) (by kernel_rfl) (fun K hK => ?_)
        have q58_0 := HQ57.out.cell 0 _ rfl; have q58_1 := HQ57.out.cell 1 _ rfl; have q58_2 := HQ57.out.cell 2 _ rfl; have t58_0 := HQ57.out.frozen 0 _ rfl; have t58_1 := HQ57.out.frozen 1 _ rfl; have t58_2 := HQ57.out.frozen 2 _ rfl
        go_simp
        generalize hw58 : World.setCell (World.setCell (World.setCell y57 _ _) _ _) _ _ = y58
        obtain ⟨hp58, hk58⟩ := Bx.put3 HQ57.out hw58
        clear hw58 q58_0 q58_1 q58_2 t58_0 t58_1 t58_2
        have HQ58 := Lib.hid hp58
        have s58 := hk58.size
        have g58 : Ext w5 y58 := hk58.to_ext g57 (fun j hj => by show j ≠ w6.heap.size; have := g0.size; omega)
        have HX58 := Lib.hid (HX57.out.keep hk58 (fun j hj => by show j ≠ w6.heap.size; have := S44.out; have := S54.out; omega))
        clear HX57
        have HY58 := Lib.hid (HY57.out.keep hk58 (fun j hj => by show j ≠ w6.heap.size; have := S44.out; have := S54.out; omega))
        clear HY57
        have HP58 := Lib.hid (HP57.out.keep hk58 (by show y44.heap.size ≠ w6.heap.size; have := S44.out; have := S54.out; omega))
        clear HP57
        refine hK.out _ _ g58 (fun hHeld => ?_)
        clear hK K
        try simp only [Act.put, List.setIfInBounds_toArray, List.set_cons_zero, List.set_cons_succ]
        refine wpAnyH_done (by kernel_rfl) ?_ _
        go_wp2_with fail
        go_meet
        have i1 := g44.size; have i2 := g0.size; have i3 := g54.size; have i4 := g55.size
        exact ⟨xv, yv, y44.heap.size, w6.heap.size, rfl, rfl, HP58.out, HQ58.out, (by have := S44.out; have := S54.out; omega), i1, i2, HX58.out.mono (fun j hj => ⟨by omega, by have := S44.out; have := S54.out; omega, by have := S44.out; have := S54.out; omega⟩), HY58.out.mono (fun j hj => ⟨by omega, by have := S44.out; have := S54.out; omega, by have := S44.out; have := S54.out; omega⟩), g58⟩
  case rest =>
    obtain ⟨⟨xf, xp, ⟨xA, xn, xc, xx⟩⟩, ⟨yf, yp, ⟨yA, yn, yc, yx⟩⟩, p, q, rfl, rfl, hbx, hby, hpq, hp, hq, fx, fy, e6⟩ := hcut
    have HFX := Lib.hid fx
    have HFY := Lib.hid fy
    have hx0 := hbx.cell 0 _ rfl
    have hx0f := hbx.frozen 0 _ rfl
    have hy0 := hby.cell 0 _ rfl
    have hy0f := hby.frozen 0 _ rfl
    have HBX := Lib.hid hbx
    have HBY := Lib.hid hby
    have hqp : q ≠ p := fun e => hpq e.symm
    have hpq2 : (p = q) = False := by simp [hpq]
    have hqp2 : (q = p) = False := by simp [hqp]
    have HPQ := Lib.hid hpq
    clear fx fy hbx hby hpq hqp
    go_upto_region 7 with fail
    generalize hw7 : World.setCell (World.setCell wc _ _) _ _ = w7
    have HBX7 := Lib.hid (show Bx w7 p [.bool false, .int .i64 xp, .slice xA xn xc] by rw [← hw7]; exact (HBX.out.set 0 (.bool false)).set_ne (p := ⟨q, 0, none⟩) (fun e => HPQ.out e.symm) (.bool false))
    have HBY7 := Lib.hid (show Bx w7 q [.bool false, .int .i64 yp, .slice yA yn yc] by rw [← hw7]; exact (HBY.out.set_ne (p := ⟨p, 0, none⟩) HPQ.out (.bool false)).set 0 (.bool false))
    have hk7 : Keep (fun b => b ≠ p ∧ b ≠ q) wc w7 := by rw [← hw7]; exact ((Keep.refl _ _).setCell (p := ⟨p, 0, none⟩) (fun h => h.1 rfl) _).setCell (p := ⟨q, 0, none⟩) (fun h => h.2 rfl) _
    clear hw7 hx0 hx0f hy0 hy0f HBX HBY hpq2 hqp2
    have HFX7 := Lib.hid (HFX.out.keep hk7 (fun b hb => hb.2))
    have HFY7 := Lib.hid (HFY.out.keep hk7 (fun b hb => hb.2))
    have e57 : Ext w5 w7 := hk7.to_ext e6 (fun j hj => ⟨by omega, by omega⟩)
    have x7 : Ext w w7 := x5.trans e57
    clear hk7 HFX HFY e6
    have hx2 := HBX7.out.cell 2 _ rfl
    have hy2 := HBY7.out.cell 2 _ rfl
    have hxl : xn = xx.length := HFX7.out.k.data.len
    have hyl : yn = yx.length := HFY7.out.k.data.len
    obtain ⟨hva, hvb⟩ := HRV.out
    rw [← HFX7.out.abs] at hva
    rw [← HFY7.out.abs] at hvb
    rcases hva with ⟨_, h0⟩ | ⟨f1, v1, v2, v3⟩
    · have h0 : xx = [] := h0
      subst h0
      obtain rfl : xn = 0 := hxl
      clear hyl hvb
      go_wp2_with fail
      go_ret
      exact ⟨rfl, x7⟩
    · rcases hvb with ⟨_, h0⟩ | ⟨f2, u1, u2, u3⟩
      · have h0 : yx = [] := h0
        subst h0
        obtain rfl : yn = 0 := hyl
        have v3 : xx.length = 64 := v3
        obtain rfl : xn = 64 := by omega
        clear hxl v1 v2
        go_wp2_with fail
        go_ret
        exact ⟨rfl, x7⟩
      · have v3 : xx.length = 64 := v3
        have u3 : yx.length = 64 := u3
        obtain rfl : xn = 64 := by omega
        obtain rfl : yn = 64 := by omega
        obtain rfl : xf = false := f1
        obtain rfl : yf = false := f2
        obtain ⟨g, xx', hdx, hgok, hgb⟩ := HFX7.out.wr rfl
        obtain ⟨g2, yx', hdy, _, _⟩ := HFY7.out.wr rfl
        obtain ⟨rfl, rfl, rfl⟩ : xA = some ⟨g, 0, none⟩ ∧ xc = 64 ∧ xx = xx' := by injection hdx with a1 a2 a3 a4; exact ⟨a1, a3, a4⟩
        obtain ⟨rfl, rfl, rfl⟩ : yA = some ⟨g2, 0, none⟩ ∧ yc = 64 ∧ yx = yx' := by injection hdy with a1 a2 a3 a4; exact ⟨a1, a3, a4⟩
        have v1 : 0 ≤ xp := v1
        have v2 : xp < (k : Int) := v2
        obtain ⟨j, rfl⟩ : ∃ j : Nat, xp = (j : Int) := ⟨xp.toNat, by omega⟩
        have u1 : 0 ≤ yp := u1
        have u2 : yp < (k : Int) := u2
        have hjk : j < k := by omega
        have HOw := Lib.hid hgb.ow
        have HV3 := Lib.hid v3
        have HU3 := Lib.hid u3
        have hgp : g ≠ p := hgok.2.1
        have hgq : g ≠ q := hgok.2.2
        have hg5 : w5.heap.size ≤ g := hgok.1
        have HG := Lib.hid (And.intro hgp (And.intro hgq hg5))
        clear hdx hdy hgok hgb hxl hyl v1 v3 u3 hgp hgq
        have hbd7 := HB.out.ext e57
        have cd_0 := Bx.cell hbd7 0 _ rfl; have cd_1 := Bx.cell hbd7 1 _ rfl
        have hx0 := HBX7.out.cell 0 _ rfl
        have hx1 := HBX7.out.cell 1 _ rfl
        clear hbd7
        go_upto_region 10 with fail
        generalize hw8 : World.alloc w7 _ = w8
        have e78 := box_ext hw8
        have HX0 := Lib.hid (show Ac.At w7 0 w7.heap.size ⟨false, (j : Int), ⟨some ⟨g, 0, none⟩, 64, 64, xx⟩⟩ from ⟨HFX7.out.k.p0, HFX7.out.k.p1, HFX7.out.k.data.at_ fun _ _ => Nat.zero_le _⟩)
        have HY0 := Lib.hid (show Ac.At w7 0 w7.heap.size ⟨false, yp, ⟨some ⟨g2, 0, none⟩, 64, 64, yx⟩⟩ from ⟨HFY7.out.k.p0, HFY7.out.k.p1, HFY7.out.k.data.at_ fun _ _ => Nat.zero_le _⟩)
        have HAc := Lib.hid (acs_one (a := ⟨false, (j : Int), ⟨some ⟨g, 0, none⟩, 64, 64, xx⟩⟩) (w' := w8) (by simpa [Ac.cells, Sl.val] using hw8) HX0.out)
        clear hw8 hx0 hx1 cd_0 cd_1 hx2 hy2
        have e48 : Ext w4 w8 := e5.trans (e57.trans e78)
        have HDo := Lib.hid (do_abs ⟨⟨A1, n1, c1, xs1⟩, ⟨B1, m1, l1, ys1⟩⟩ w8 ((HD.out.on e48 (Nat.le_refl _)).low (Nat.zero_le _)) HO.out _ 1 1 _ HAc.out (fun a ha => by
          simp only [List.mem_singleton] at ha
          subst ha
          exact .inr ⟨by show (0 : Int) ≤ j; omega, by rw [HS.out, List.length_replicate]; show (j : Int) < k; omega, HV3.out⟩) (by rw [HW.out]; decide))
        simp only [Dev.cells, Sl.val] at HDo
        refine HDo.out.mono ?_
        rintro e w9 ⟨⟨d, rfl, hs, hw, hd⟩, e89⟩
        rw [HS.out, HW.out] at hs hw
        have hs' : d.secv = List.replicate k (zeros 64) := hs
        have hw' : d.wv = [((j : Int), xx)] := hw
        have HS1 := Lib.hid hs'
        have HW1 := Lib.hid hw'
        have HD1 := Lib.hid hd
        have HO1 := Lib.hid (show okV d.secv d.wv by
          rw [hs', hw']
          exact ⟨by simpa using hk0, by simp; omega, fun s hs => by obtain ⟨_, rfl⟩ := List.mem_replicate.1 hs; simp [zeros], fun x hx => by
            simp only [List.mem_singleton] at hx
            subst hx
            exact ⟨by show (0 : Int) ≤ j; omega, by rw [List.length_replicate]; show (j : Int) < k; omega, HV3.out⟩⟩)
        have HM1 := Lib.hid (show d.waits.n = 1 by rw [← wv_len hd, hw']; rfl)
        clear hs hw hd hs' hw' HDo
        obtain ⟨⟨A2, n2, c2, xs2⟩, ⟨B2, m2, l2, ys2⟩⟩ := d
        obtain rfl : m2 = 1 := HM1.out
        simp only [Dev.cells, Sl.val]
        have e79 : Ext w7 w9 := e78.trans e89
        go_upto_region 10 with fail
        generalize hw10 : World.alloc w9 _ = w10
        have HB10 := Lib.hid (Bx.new hw10)
        have e910 := box_ext hw10
        have z10 : w10.heap.size = w9.heap.size + 1 := by rw [← hw10]; simp
        have Z10 := Lib.hid z10
        simp only at HB10
        clear hw10 z10
        have e710 : Ext w7 w10 := e79.trans e910
        have hby10 := HBY7.out.ext e710
        have cy_0 := Bx.cell hby10 0 _ rfl; have cy_1 := Bx.cell hby10 1 _ rfl; have cy_2 := Bx.cell hby10 2 _ rfl
        have cp_0 := Bx.cell HB10.out 0 _ rfl; have cp_1 := Bx.cell HB10.out 1 _ rfl
        clear hby10
        go_upto_region 11 with fail
        generalize hw11 : World.alloc w10 _ = w11
        have e1011 := box_ext hw11
        have HAc2 := Lib.hid (acs_two (a := ⟨false, yp, ⟨some ⟨g2, 0, none⟩, 64, 64, yx⟩⟩) (b := ⟨true, 0, ⟨none, 0, 0, []⟩⟩) (w' := w11) (by simpa [Ac.cells, Sl.val] using hw11) ((HY0.out.on e710 (Nat.le_refl _)).low (Nat.zero_le _)) ⟨by decide, by decide, ⟨rfl, Nat.le_refl _, Nat.zero_le _, Rd.nil, fun _ h => by simp at h⟩⟩)
        clear hw11 cy_0 cy_1 cy_2 cp_0 cp_1
        have e911 : Ext w9 w11 := e910.trans e1011
        have HDo2 := Lib.hid (do_abs ⟨⟨A2, n2, c2, xs2⟩, ⟨B2, 1, l2, ys2⟩⟩ w11 ((HD1.out.on e911 (Nat.le_refl _)).low (Nat.zero_le _)) HO1.out _ 2 2 _ HAc2.out (fun a ha => by
          simp only [List.mem_cons, List.not_mem_nil, or_false] at ha
          rcases ha with rfl | rfl
          · exact .inr ⟨u1, by rw [HS1.out, List.length_replicate]; exact u2, HU3.out⟩
          · exact .inl rfl) (by rw [HW1.out]; simp))
        simp only [Dev.cells, Sl.val] at HDo2
        refine HDo2.out.mono ?_
        rintro e w12 ⟨⟨d, rfl, hs, hw, hd⟩, e1112⟩
        have hw' : d.wv = [] := hw
        have HM2 := Lib.hid (show d.waits.n = 0 by rw [← wv_len hd, hw']; rfl)
        clear hs hw hd hw' HDo2
        obtain ⟨⟨A3, n3, c3, xs3⟩, ⟨B3, m3, l3, ys3⟩⟩ := d
        obtain rfl : m3 = 0 := HM2.out
        simp only [Dev.cells, Sl.val]
        go_upto_region 11 with fail
        generalize hw13 : World.alloc w12 _ = w13
        have HB13 := Lib.hid (Bx.new hw13)
        have e1213 := box_ext hw13
        simp only at HB13
        clear hw13
        have e1013 : Ext w10 w13 := e1011.trans (e1112.trans e1213)
        have e713 : Ext w7 w13 := e710.trans e1013
        have HBX13 := Lib.hid (HBX7.out.ext e713)
        have HB10' := Lib.hid (HB10.out.ext e1013)
        have HBd13 := Lib.hid (HB.out.ext (e57.trans e713))
        have HD4 := Lib.hid (HD.out)
        have hx0 := HBX13.out.cell 2 _ rfl
        have hcv : (convert 34 9 (.slice (some ⟨g, 0, none⟩) 64 64)).run Try.prog w13 = .ok (.string ⟨xx.toArray⟩) w13 :=
          run_conv_str _ _ _ 5 Try.underlying34 Try.underlying5 Try.underlying9 _ _ _ 64 64 xx HV3.out.symm (((HFX7.out.k.data.ext e713).rd).rd (lo := 0) fun _ _ => Nat.zero_le _)
        go_wp2_with fail
        have HOw13 := Lib.hid (HOw.out.ext e713)
        have HXl := Lib.hid (show xx.length = 64 from HV3.out)
        rw [HXl.out] at HOw13
        clear hx0 hcv
        go_loopw [16] (fun s wr => ∃ i : Nat, i ≤ 64 ∧ s = .int .i64 i ∧ Hid (Ow wr g 0 64) ∧ Hid (Keep (fun b => b ≠ g) w13 wr)) (fun s _ => 64 - (intOf s).toNat)
        case atStart => exact ⟨0, by omega, rfl, HOw13, Lib.hid (Keep.refl _ _)⟩
        case round =>
          obtain ⟨i, hi, rfl, HOr, HKr⟩ := hrel
          have HBXr := Lib.hid (HBX13.out.keep HKr.out (fun e => HG.out.1 e.symm))
          by_cases hlt : i < 64
          · have p0 : (0 : Int) ≤ i := by omega
            have p1 : (i : Int) < 64 := by omega
            obtain ⟨⟨u, hu⟩, hf⟩ := HOr.out.c i hlt
            rw [Nat.zero_add] at hu hf
            have hx0 := HBXr.out.cell 2 _ rfl
            go_wp2_with fail
            refine rgnE (S := fun w' => w' = wr.drew) (by kernel_rfl) ?_ (fun hHeld => ?_)
            · rfl
            refine takeE 0 (v := ?_) rfl (by kernel_rfl) (by kernel_rfl) (by kernel_rfl) (by kernel_rfl) (fun _ _ _ h => h) (by kernel_rfl) ?_ (by assumption) ?_; rotate_left; (focus (intro w hSw; (try dsimp only at hSw); (try go_split_ands); go_simp <;> with_reducible rfl)); try simp only [Act.put, List.setIfInBounds_toArray, List.set_cons_zero, List.set_cons_succ]
            refine takeE 1 (v := ?_) rfl (by kernel_rfl) (by kernel_rfl) (by kernel_rfl) (by kernel_rfl) (fun _ _ _ h => h) (by kernel_rfl) ?_ (by assumption) ?_; rotate_left; (focus (intro w hSw; (try dsimp only at hSw); (try go_split_ands); go_simp <;> with_reducible rfl)); try simp only [Act.put, List.setIfInBounds_toArray, List.set_cons_zero, List.set_cons_succ]
            refine takeE 2 (v := ?_) rfl (by kernel_rfl) (by kernel_rfl) (by kernel_rfl) (by kernel_rfl) (fun _ _ _ h => h) (by kernel_rfl) ?_ (by assumption) ?_; rotate_left; (focus (intro w hSw; (try dsimp only at hSw); (try go_split_ands); go_simp <;> with_reducible rfl)); try simp only [Act.put, List.setIfInBounds_toArray, List.set_cons_zero, List.set_cons_succ]
            refine takeE 3 (v := ?_) rfl (by kernel_rfl) (by kernel_rfl) (by kernel_rfl) (by kernel_rfl) (fun _ _ _ h => h) (by kernel_rfl) ?_ (by assumption) ?_; rotate_left; (focus (intro w hSw; (try dsimp only at hSw); (try go_split_ands); go_simp <;> with_reducible rfl)); try simp only [Act.put, List.setIfInBounds_toArray, List.set_cons_zero, List.set_cons_succ]
            refine takeE 4 (v := ?_) rfl (by kernel_rfl) (by kernel_rfl) (by kernel_rfl) (by kernel_rfl) (fun _ _ _ h => h) (by kernel_rfl) ?_ (by assumption) ?_; rotate_left; (focus (intro w hSw; (try dsimp only at hSw); (try go_split_ands); go_simp <;> with_reducible rfl)); try simp only [Act.put, List.setIfInBounds_toArray, List.set_cons_zero, List.set_cons_succ]
            refine takeE 5 (v := ?_) rfl (by kernel_rfl) (by kernel_rfl) (by kernel_rfl) (by kernel_rfl) (fun _ _ _ h => h) (by kernel_rfl) ?_ (by assumption) ?_; rotate_left; (focus (intro w hSw; (try dsimp only at hSw); (try go_split_ands); go_simp <;> with_reducible rfl)); try simp only [Act.put, List.setIfInBounds_toArray, List.set_cons_zero, List.set_cons_succ]
            refine takeE 6 (v := ?_) rfl (by kernel_rfl) (by kernel_rfl) (by kernel_rfl) (by kernel_rfl) (fun _ _ _ h => h) (by kernel_rfl) ?_ (by assumption) ?_; rotate_left; (focus (intro w hSw; (try dsimp only at hSw); (try go_split_ands); go_simp <;> with_reducible rfl)); try simp only [Act.put, List.setIfInBounds_toArray, List.set_cons_zero, List.set_cons_succ]
            refine takeE 7 (v := ?_) rfl (by kernel_rfl) (by kernel_rfl) (by kernel_rfl) (by kernel_rfl) (fun _ _ _ h => h) (by kernel_rfl) ?_ (by assumption) ?_; rotate_left; (focus (intro w hSw; (try dsimp only at hSw); (try go_split_ands); go_simp <;> with_reducible rfl)); try simp only [Act.put, List.setIfInBounds_toArray, List.set_cons_zero, List.set_cons_succ]
            refine takeE 8 (v := ?_) rfl (by kernel_rfl) (by kernel_rfl) (by kernel_rfl) (by kernel_rfl) (fun _ _ _ h => h) (by kernel_rfl) ?_ (by assumption) ?_; rotate_left; (focus (intro w hSw; (try dsimp only at hSw); (try go_split_ands); go_simp <;> with_reducible rfl)); try simp only [Act.put, List.setIfInBounds_toArray, List.set_cons_zero, List.set_cons_succ]
            refine takeE 9 (v := ?_) rfl (by kernel_rfl) (by kernel_rfl) (by kernel_rfl) (by kernel_rfl) (fun _ _ _ h => h) (by kernel_rfl) ?_ (by assumption) ?_; rotate_left; (focus (intro w hSw; (try dsimp only at hSw); (try go_split_ands); go_simp <;> with_reducible rfl)); try simp only [Act.put, List.setIfInBounds_toArray, List.set_cons_zero, List.set_cons_succ]
            refine lastE 10 rfl (by kernel_rfl) (by kernel_rfl) (by kernel_rfl) (by kernel_rfl) (fun K hK => ?_); (try go_simp)
            refine hK.out _ _ ?_; clear hK K; try simp only [Act.put, List.setIfInBounds_toArray, List.set_cons_zero, List.set_cons_succ]
            go_wp2_with fail
            go_roundw
            case rel =>
              refine ⟨i + 1, by omega, by go_num, Lib.hid ?_, Lib.hid ((HKr.out.setCell (p := ⟨g, i, none⟩) (fun h => h rfl) _).ext (Ext.refl _).drew)⟩
              have := (HOr.out.set i (bits .xor .u8 u 255)).ext (Ext.refl _).drew
              rw [Nat.zero_add] at this
              exact this
            case measure => simp [intOf]; omega
          · obtain rfl : i = 64 := by omega
            have z49 := e48.size
            have z89 := e89.size
            have hlt7 : g < w7.heap.size := HOw.out.lt
            have z78 := e78.size
            have z45' := e5.size
            have h5g := HG.out.2.2
            have HDp := Lib.hid (((HD1.out.on (e910.trans e1013) (Nat.le_refl _))).keep HKr.out (Nat.le_refl _) (fun b h1 h2 => by show b ≠ g; omega))
            have HB10r := Lib.hid (HB10'.out.keep HKr.out (by show w9.heap.size ≠ g; omega))
            have HB13r := Lib.hid (HB13.out.keep HKr.out (by show w12.heap.size ≠ g; have := e1013.size; have := e1011.size; have := e1112.size; have := e910.size; omega))
            have HBdr := Lib.hid (HBd13.out.keep HKr.out (by show w4.heap.size ≠ g; have := HB.out.lt; omega))
            have HDd := Lib.hid ((HD.out.imp (w' := w13) (lo' := w3.heap.size) (hi' := w4.heap.size) (fun A cs h => h.ext (e5.trans (e57.trans e713)) (Nat.le_refl _))).keep HKr.out (by have := (e5.trans (e57.trans e713)).size; omega) (fun b h1 h2 => by show b ≠ g; have := HB.out.lt; omega))
            have xr : Ext w wr := HKr.out.to_ext (x7.trans e713) (fun b hb => by show b ≠ g; have := x5.size; omega)
            have z13 := HKr.out.size
            have z49b := (e5.trans (e57.trans e713)).size
            have HRp := Lib.hid (fun w1 (e : Ext wr w1) => read_abs ⟨⟨A2, n2, c2, xs2⟩, ⟨B2, 1, l2, ys2⟩⟩ w1 (((HDp.out.imp fun _ _ h => h.more (Nat.zero_le _) z13).on e (Nat.le_refl _)).low (Nat.zero_le _)) HO1.out j (by rw [HS1.out, List.length_replicate]; exact hjk))
            have HRd := Lib.hid (fun w1 (e : Ext wr w1) => read_abs ⟨⟨A1, n1, c1, xs1⟩, ⟨B1, m1, l1, ys1⟩⟩ w1 (((HDd.out.imp fun _ _ h => h.more (Nat.zero_le _) (Nat.le_trans z49b z13)).on e (Nat.le_refl _)).low (Nat.zero_le _)) HO.out j (by rw [HS.out, List.length_replicate]; exact hjk))
            simp only [Dev.cells, Sl.val] at HRp HRd
            have hx1 := HBXr.out.cell 1 _ rfl
            have cp_0 := Bx.cell HB10r.out 0 _ rfl; have cp_1 := Bx.cell HB10r.out 1 _ rfl
            go_wp2_with fail
            refine (HRp.out _ (Ext.refl _)).mono ?_
            rintro e wa ⟨⟨⟨sA, sn, sc, sx⟩, rfl, hsx, hso⟩, ea⟩
            have HSX := Lib.hid (show sx = xx by have h : sx = _ := hsx; rw [h, HS1.out, HW1.out]; simp [readV])
            have HSO := Lib.hid hso
            clear hsx hso cp_0 cp_1 hx1
            have hx1 := (HBXr.out.ext ea).cell 1 _ rfl
            have hbd := HBdr.out.ext ea
            have cd_0 := Bx.cell hbd 0 _ rfl; have cd_1 := Bx.cell hbd 1 _ rfl
            clear hbd
            simp only [Sl.val]
            go_wp2_with fail
            refine (HRd.out _ ea).mono ?_
            rintro e wb ⟨⟨⟨tA, tn, tc, tx⟩, rfl, htx, hto⟩, eb⟩
            have HTX := Lib.hid (show tx = zeros 64 by have h : tx = _ := htx; rw [h, HS.out, HW.out]; simp [readV, List.getD, hjk])
            have HTO := Lib.hid hto
            clear htx hto cd_0 cd_1 hx1
            simp only [Sl.val]
            have hsn : sn = 64 := by
              have h1 : sn = sx.length := HSO.out.at_.len
              rw [h1, HSX.out, HXl.out]
            subst hsn
            obtain ⟨h, ho, hsA, hlo, HSw⟩ := HSO.out.wr.ow (Nat.le_refl _) (by have h1 : 64 = sx.length := HSO.out.at_.len; rw [← h1]; omega)
            have hsA' : sA = some ⟨h, ho, none⟩ := hsA
            subst hsA'
            have HSw' := Lib.hid (show Ow wb h ho 64 by have := HSw.ext eb; have h1 : 64 = sx.length := HSO.out.at_.len; rw [← h1] at this; exact this)
            have hhw : h < wa.heap.size := HSw.lt
            clear hsA HSw
            go_wp2_with fail
            have eab := ea.trans eb
            have HB10b := Lib.hid (HB10r.out.ext eab)
            have HB13b := Lib.hid (HB13r.out.ext eab)
            have HBXb := Lib.hid (HBXr.out.ext eab)
            have HTO' := Lib.hid HTO.out.at_
            have xb : Ext w wb := xr.trans eab
            have hgr : g ≠ h := by have := HKr.out.size; have := e713.size; omega
            have HBs := Lib.hid (And.intro HB10r.out.lt (And.intro HB13r.out.lt HBXr.out.lt))
            have HRb := Lib.hid (fun w1 (e : Ext wb w1) => HRp.out w1 (eab.trans e))
            have HDpb := Lib.hid (HDp.out.imp (w' := wb) fun _ _ hr => (hr.more (Nat.le_refl _) z13).ext eab (Nat.le_refl _))
            have hlo' : wr.heap.size ≤ h := hlo
            have zab := eab.size
            have zea := ea.size
            have HTlt := Lib.hid (show ∀ b, wa.heap.size ≤ b → b < wb.heap.size → b ≠ h from fun b h1 _ => by omega)
            clear HB10r HB13r HBXr HTO HRp HRd HDd HBdr HDp
            go_loopw [21] (fun s wr => ∃ i : Nat, i ≤ 64 ∧ s = .int .i64 i ∧ Hid (Ow wr h ho 64) ∧ Hid (Keep (fun b => b ≠ h) wb wr)) (fun s _ => 64 - (intOf s).toNat)
            case atStart => exact ⟨0, by omega, rfl, HSw', Lib.hid (Keep.refl _ _)⟩
            case round =>
              obtain ⟨i, hi, rfl, HOr2, HKr2⟩ := hrel
              by_cases hlt : i < 64
              · have p0 : (0 : Int) ≤ i := by omega
                have p1 : (i : Int) < 64 := by omega
                obtain ⟨⟨u, hu⟩, hf⟩ := HOr2.out.c i hlt
                go_wp2_with fail
                go_roundw
                case rel => exact ⟨i + 1, by omega, by go_num, Lib.hid (HOr2.out.set i _), Lib.hid (HKr2.out.setCell (p := ⟨h, ho + i, none⟩) (fun h => h rfl) _)⟩
                case measure => simp [intOf]; omega
              · obtain rfl : i = 64 := by omega
                obtain ⟨l10, l13, lX⟩ := HBs.out
                have HB10k := Lib.hid (HB10b.out.keep HKr2.out (by show w9.heap.size ≠ h; omega))
                have HB13k := Lib.hid (HB13b.out.keep HKr2.out (by show w12.heap.size ≠ h; omega))
                have HBXk := Lib.hid (HBXb.out.keep HKr2.out (by show p ≠ h; omega))
                have xk : Ext w wr := HKr2.out.to_ext xb (fun b hb => by show b ≠ h; have := xr.size; omega)
                have HDpk := Lib.hid (HDpb.out.keep HKr2.out (by have := zab; omega) (fun b h1 h2 => by show b ≠ h; omega))
                have z2 := HKr2.out.size
                have HRk := Lib.hid (read_abs ⟨⟨A2, n2, c2, xs2⟩, ⟨B2, 1, l2, ys2⟩⟩ wr (HDpk.out.imp fun _ _ h => h.more (Nat.zero_le _) (by omega)) HO1.out j (by rw [HS1.out, List.length_replicate]; exact hjk))
                simp only [Dev.cells, Sl.val] at HRk
                have HTk := Lib.hid (Oct.At.imp HTO'.out fun A cs hr => hr.keep_ok HKr2.out (Nat.le_refl _) HTlt.out)
                have hx1 := HBXk.out.cell 1 _ rfl
                have cp_0 := Bx.cell HB10k.out 0 _ rfl; have cp_1 := Bx.cell HB10k.out 1 _ rfl
                go_wp2_with fail
                refine HRk.out.mono ?_
                rintro e wz ⟨⟨⟨uA, un, uc, ux⟩, rfl, hux, huo⟩, ez⟩
                have HUX := Lib.hid (show ux = xx by have h : ux = _ := hux; rw [h, HS1.out, HW1.out]; simp [readV])
                have HUO := Lib.hid huo
                clear hux huo cp_0 cp_1 hx1
                simp only [Sl.val]
                have hv1 : ∀ w', Ext wz w' → (convert 34 9 (.slice uA un uc)).run Try.prog w' = .ok (.string ⟨xx.toArray⟩) w' := fun w' e => by
                  rw [← HUX.out]
                  exact run_conv_str _ _ _ 5 Try.underlying34 Try.underlying5 Try.underlying9 _ _ uA un uc ux HUO.out.at_.len (Oct.At.rdb (Oct.At.on HUO.out.at_ e (Nat.le_refl _)))
                have hv2 : ∀ w', Ext wz w' → (convert 34 9 (.slice tA tn tc)).run Try.prog w' = .ok (.string ⟨(zeros 64).toArray⟩) w' := fun w' e => by
                  rw [← HTX.out]
                  exact run_conv_str _ _ _ 5 Try.underlying34 Try.underlying5 Try.underlying9 _ _ tA tn tc tx HTk.out.len (Rd.ext (Oct.At.rdb HTk.out) (ez.trans e) z2)
                have b10 := fun w' (e : Ext wz w') => (HB10k.out.ext (ez.trans e)).cell 1 _ rfl
                have b13 := fun w' (e : Ext wz w') => (HB13k.out.ext (ez.trans e)).cell 1 _ rfl
                have xz := xk.trans ez
                have rz := Ext.refl wz
                have k2 := mk64
                go_wp2_with fail
                refine wp_region_held_drew (S := fun w' => Ext wz w') (by kernel_rfl) (by (repeat (first | exact Below.refl _ _ | exact Ext.refl _ | assumption | refine Below.drew ?_ | refine below_drewN ?_ _ | refine below_alloc ?_ (by first | exact Nat.le_refl _ | assumption | (simp; done) | omega | (simp; omega)) _ | refine below_ext ?_ (by assumption) (by first | exact Nat.le_refl _ | assumption | (simp; done) | omega | (simp; omega)) | refine Ext.drew ?_ | refine Ext.drewN ?_ _ | refine Ext.alloc ?_ _ | refine Ext.setCell ?_ (by first | assumption | (simp; done) | (simp; omega)) _ | refine Below.setCell ?_ (by first | assumption | (simp; done) | (simp; omega)) _ | refine Ext.trans ?_ (by assumption)))) (fun hHeld => ?_)
                refine takeL 0 (v := ?_) rfl (by kernel_rfl) (by kernel_rfl) (by kernel_rfl) (fun _ _ _ h => h) (by kernel_rfl) ?_ (by assumption) ?_; rotate_left; (focus (intro w hSw; (try dsimp only at hSw); go_simp <;> with_reducible rfl)); try simp only [Act.put, List.setIfInBounds_toArray, List.set_cons_zero, List.set_cons_succ]
                refine takeL 2 (v := ?_) rfl (by kernel_rfl) (by kernel_rfl) (by kernel_rfl) (fun _ _ _ h => h) (by kernel_rfl) ?_ (by assumption) ?_; rotate_left; (focus (intro w hSw; (try dsimp only at hSw); go_simp <;> with_reducible rfl)); try simp only [Act.put, List.setIfInBounds_toArray, List.set_cons_zero, List.set_cons_succ]
                refine takeL 5 (v := ?_) rfl (by kernel_rfl) (by kernel_rfl) (by kernel_rfl) (fun _ _ _ h => h) (by kernel_rfl) ?_ (by assumption) ?_; rotate_left; (focus (intro w hSw; (try dsimp only at hSw); go_simp <;> with_reducible rfl)); try simp only [Act.put, List.setIfInBounds_toArray, List.set_cons_zero, List.set_cons_succ]
                refine takeL 8 (v := ?_) rfl (by kernel_rfl) (by kernel_rfl) (by kernel_rfl) (fun _ _ _ h => h) (by kernel_rfl) ?_ (by assumption) ?_; rotate_left; (focus (intro w hSw; (try dsimp only at hSw); go_simp <;> with_reducible rfl)); try simp only [Act.put, List.setIfInBounds_toArray, List.set_cons_zero, List.set_cons_succ]
                refine takeL 11 (v := ?_) rfl (by kernel_rfl) (by kernel_rfl) (by kernel_rfl) (fun _ _ _ h => h) (by kernel_rfl) ?_ (by assumption) ?_; rotate_left; (focus (intro w hSw; (try dsimp only at hSw); go_simp <;> with_reducible rfl)); try simp only [Act.put, List.setIfInBounds_toArray, List.set_cons_zero, List.set_cons_succ]
                refine oneL 1 rfl (by kernel_rfl) (by kernel_rfl) (fun K hK => ?_); go_simp
                refine (num_any _ _).mono ?_
                rintro e wn ⟨rfl, rfl⟩
                go_wp2_with fail
                refine hK.out _ _ (by (repeat (first | exact Below.refl _ _ | exact Ext.refl _ | assumption | refine Below.drew ?_ | refine below_drewN ?_ _ | refine below_alloc ?_ (by first | exact Nat.le_refl _ | assumption | (simp; done) | omega | (simp; omega)) _ | refine below_ext ?_ (by assumption) (by first | exact Nat.le_refl _ | assumption | (simp; done) | omega | (simp; omega)) | refine Ext.drew ?_ | refine Ext.drewN ?_ _ | refine Ext.alloc ?_ _ | refine Ext.setCell ?_ (by first | assumption | (simp; done) | (simp; omega)) _ | refine Below.setCell ?_ (by first | assumption | (simp; done) | (simp; omega)) _ | refine Ext.trans ?_ (by assumption)))) (fun hHeld => ?_)
                clear hK K
                try simp only [Act.put, List.setIfInBounds_toArray, List.set_cons_zero, List.set_cons_succ]
                refine oneL 3 rfl (by kernel_rfl) (by kernel_rfl) (fun K hK => ?_); go_simp
                refine (num_any _ _).mono ?_
                rintro e wn ⟨rfl, rfl⟩
                go_wp2_with fail
                refine hK.out _ _ (by (repeat (first | exact Below.refl _ _ | exact Ext.refl _ | assumption | refine Below.drew ?_ | refine below_drewN ?_ _ | refine below_alloc ?_ (by first | exact Nat.le_refl _ | assumption | (simp; done) | omega | (simp; omega)) _ | refine below_ext ?_ (by assumption) (by first | exact Nat.le_refl _ | assumption | (simp; done) | omega | (simp; omega)) | refine Ext.drew ?_ | refine Ext.drewN ?_ _ | refine Ext.alloc ?_ _ | refine Ext.setCell ?_ (by first | assumption | (simp; done) | (simp; omega)) _ | refine Below.setCell ?_ (by first | assumption | (simp; done) | (simp; omega)) _ | refine Ext.trans ?_ (by assumption)))) (fun hHeld => ?_)
                clear hK K
                try simp only [Act.put, List.setIfInBounds_toArray, List.set_cons_zero, List.set_cons_succ]
                refine takeL 4 (v := ?_) rfl (by kernel_rfl) (by kernel_rfl) (by kernel_rfl) (fun _ _ _ h => h) (by kernel_rfl) ?_ (by assumption) ?_; rotate_left; (focus (intro w hSw; (try dsimp only at hSw); go_simp <;> with_reducible rfl)); try simp only [Act.put, List.setIfInBounds_toArray, List.set_cons_zero, List.set_cons_succ]
                refine oneL 6 rfl (by kernel_rfl) (by kernel_rfl) (fun K hK => ?_); go_simp
                refine (num_any _ _).mono ?_
                rintro e wn ⟨rfl, rfl⟩
                go_wp2_with fail
                refine hK.out _ _ (by (repeat (first | exact Below.refl _ _ | exact Ext.refl _ | assumption | refine Below.drew ?_ | refine below_drewN ?_ _ | refine below_alloc ?_ (by first | exact Nat.le_refl _ | assumption | (simp; done) | omega | (simp; omega)) _ | refine below_ext ?_ (by assumption) (by first | exact Nat.le_refl _ | assumption | (simp; done) | omega | (simp; omega)) | refine Ext.drew ?_ | refine Ext.drewN ?_ _ | refine Ext.alloc ?_ _ | refine Ext.setCell ?_ (by first | assumption | (simp; done) | (simp; omega)) _ | refine Below.setCell ?_ (by first | assumption | (simp; done) | (simp; omega)) _ | refine Ext.trans ?_ (by assumption)))) (fun hHeld => ?_)
                clear hK K
                try simp only [Act.put, List.setIfInBounds_toArray, List.set_cons_zero, List.set_cons_succ]
                refine takeL 7 (v := ?_) rfl (by kernel_rfl) (by kernel_rfl) (by kernel_rfl) (fun _ _ _ h => h) (by kernel_rfl) ?_ (by assumption) ?_; rotate_left; (focus (intro w hSw; (try dsimp only at hSw); go_simp <;> with_reducible rfl)); try simp only [Act.put, List.setIfInBounds_toArray, List.set_cons_zero, List.set_cons_succ]
                refine oneL 9 rfl (by kernel_rfl) (by kernel_rfl) (fun K hK => ?_); go_simp
                refine (num_any _ _).mono ?_
                rintro e wn ⟨rfl, rfl⟩
                go_wp2_with fail
                refine hK.out _ _ (by (repeat (first | exact Below.refl _ _ | exact Ext.refl _ | assumption | refine Below.drew ?_ | refine below_drewN ?_ _ | refine below_alloc ?_ (by first | exact Nat.le_refl _ | assumption | (simp; done) | omega | (simp; omega)) _ | refine below_ext ?_ (by assumption) (by first | exact Nat.le_refl _ | assumption | (simp; done) | omega | (simp; omega)) | refine Ext.drew ?_ | refine Ext.drewN ?_ _ | refine Ext.alloc ?_ _ | refine Ext.setCell ?_ (by first | assumption | (simp; done) | (simp; omega)) _ | refine Below.setCell ?_ (by first | assumption | (simp; done) | (simp; omega)) _ | refine Ext.trans ?_ (by assumption)))) (fun hHeld => ?_)
                clear hK K
                try simp only [Act.put, List.setIfInBounds_toArray, List.set_cons_zero, List.set_cons_succ]
                refine takeL 10 (v := ?_) rfl (by kernel_rfl) (by kernel_rfl) (by kernel_rfl) (fun _ _ _ h => h) (by kernel_rfl) ?_ (by assumption) ?_; rotate_left; (focus (intro w hSw; (try dsimp only at hSw); go_simp <;> with_reducible rfl)); try simp only [Act.put, List.setIfInBounds_toArray, List.set_cons_zero, List.set_cons_succ]
                refine oneL 12 rfl (by kernel_rfl) (by kernel_rfl) (fun K hK => ?_); go_simp
                refine (num_any _ _).mono ?_
                rintro e wn ⟨rfl, rfl⟩
                go_wp2_with fail
                refine hK.out _ _ (by (repeat (first | exact Below.refl _ _ | exact Ext.refl _ | assumption | refine Below.drew ?_ | refine below_drewN ?_ _ | refine below_alloc ?_ (by first | exact Nat.le_refl _ | assumption | (simp; done) | omega | (simp; omega)) _ | refine below_ext ?_ (by assumption) (by first | exact Nat.le_refl _ | assumption | (simp; done) | omega | (simp; omega)) | refine Ext.drew ?_ | refine Ext.drewN ?_ _ | refine Ext.alloc ?_ _ | refine Ext.setCell ?_ (by first | assumption | (simp; done) | (simp; omega)) _ | refine Below.setCell ?_ (by first | assumption | (simp; done) | (simp; omega)) _ | refine Ext.trans ?_ (by assumption)))) (fun hHeld => ?_)
                clear hK K
                try simp only [Act.put, List.setIfInBounds_toArray, List.set_cons_zero, List.set_cons_succ]
                refine takeL 13 (v := ?_) rfl (by kernel_rfl) (by kernel_rfl) (by kernel_rfl) (fun _ _ _ h => h) (by kernel_rfl) ?_ (by assumption) ?_; rotate_left; (focus (intro w hSw; (try dsimp only at hSw); go_simp <;> with_reducible rfl)); try simp only [Act.put, List.setIfInBounds_toArray, List.set_cons_zero, List.set_cons_succ]
                refine takeL 14 (v := ?_) rfl (by kernel_rfl) (by kernel_rfl) (by kernel_rfl) (fun _ _ _ h => h) (by kernel_rfl) ?_ (by assumption) ?_; rotate_left; (focus (intro w hSw; (try dsimp only at hSw); go_simp <;> with_reducible rfl)); try simp only [Act.put, List.setIfInBounds_toArray, List.set_cons_zero, List.set_cons_succ]
                refine takeL 15 (v := ?_) rfl (by kernel_rfl) (by kernel_rfl) (by kernel_rfl) (fun _ _ _ h => h) (by kernel_rfl) ?_ (by assumption) ?_; rotate_left; (focus (intro w hSw; (try dsimp only at hSw); go_simp <;> with_reducible rfl)); try simp only [Act.put, List.setIfInBounds_toArray, List.set_cons_zero, List.set_cons_succ]
                refine takeL 16 (v := ?_) rfl (by kernel_rfl) (by kernel_rfl) (by kernel_rfl) (fun _ _ _ h => h) (by kernel_rfl) ?_ (by assumption) ?_; rotate_left; (focus (intro w hSw; (try dsimp only at hSw); go_simp <;> with_reducible rfl)); try simp only [Act.put, List.setIfInBounds_toArray, List.set_cons_zero, List.set_cons_succ]
                refine takeL 17 (v := ?_) rfl (by kernel_rfl) (by kernel_rfl) (by kernel_rfl) (fun _ _ _ h => h) (by kernel_rfl) ?_ (by assumption) ?_; rotate_left; (focus (intro w hSw; (try dsimp only at hSw); go_simp <;> with_reducible rfl)); try simp only [Act.put, List.setIfInBounds_toArray, List.set_cons_zero, List.set_cons_succ]
                refine takeL 18 (v := ?_) rfl (by kernel_rfl) (by kernel_rfl) (by kernel_rfl) (fun _ _ _ h => h) (by kernel_rfl) ?_ (by assumption) ?_; rotate_left; (focus (intro w hSw; (try dsimp only at hSw); go_simp <;> with_reducible rfl)); try simp only [Act.put, List.setIfInBounds_toArray, List.set_cons_zero, List.set_cons_succ]
                refine takeL 19 (v := ?_) rfl (by kernel_rfl) (by kernel_rfl) (by kernel_rfl) (fun _ _ _ h => h) (by kernel_rfl) ?_ (by assumption) ?_; rotate_left; (focus (intro w hSw; (try dsimp only at hSw); go_simp <;> with_reducible rfl)); try simp only [Act.put, List.setIfInBounds_toArray, List.set_cons_zero, List.set_cons_succ]
                refine takeL 20 (v := ?_) rfl (by kernel_rfl) (by kernel_rfl) (by kernel_rfl) (fun _ _ _ h => h) (by kernel_rfl) ?_ (by assumption) ?_; rotate_left; (focus (intro w hSw; (try dsimp only at hSw); go_simp <;> with_reducible rfl)); try simp only [Act.put, List.setIfInBounds_toArray, List.set_cons_zero, List.set_cons_succ]
                refine takeL 21 (v := ?_) rfl (by kernel_rfl) (by kernel_rfl) (by kernel_rfl) (fun _ _ _ h => h) (by kernel_rfl) ?_ (by assumption) ?_; rotate_left; (focus (intro w hSw; (try dsimp only at hSw); go_simp <;> with_reducible rfl)); try simp only [Act.put, List.setIfInBounds_toArray, List.set_cons_zero, List.set_cons_succ]
                refine takeL 22 (v := ?_) rfl (by kernel_rfl) (by kernel_rfl) (by kernel_rfl) (fun _ _ _ h => h) (by kernel_rfl) ?_ (by assumption) ?_; rotate_left; (focus (intro w hSw; (try dsimp only at hSw); go_simp <;> with_reducible rfl)); try simp only [Act.put, List.setIfInBounds_toArray, List.set_cons_zero, List.set_cons_succ]
                refine takeL 23 (v := ?_) rfl (by kernel_rfl) (by kernel_rfl) (by kernel_rfl) (fun _ _ _ h => h) (by kernel_rfl) ?_ (by assumption) ?_; rotate_left; (focus (intro w hSw; (try dsimp only at hSw); go_simp <;> with_reducible rfl)); try simp only [Act.put, List.setIfInBounds_toArray, List.set_cons_zero, List.set_cons_succ]
                refine oneL 24 rfl (by kernel_rfl) (by kernel_rfl) (fun K hK => ?_); go_simp
                generalize hwm : World.drew (World.alloc _ _) = wm
                have em : Ext wz wm := by rw [← hwm]; exact ((Ext.refl _).alloc _).drew
                have hv3 : ∀ w', Ext wm w' → (convert 34 9 (.slice (some ⟨wz.heap.size, 0, none⟩) 64 64)).run Try.prog w' = .ok (.string ⟨(zeros 64).toArray⟩) w' := fun w' e => by
                  refine run_conv_str _ _ _ 5 Try.underlying34 Try.underlying5 Try.underlying9 wz.heap.size wm.heap.size _ 64 64 (zeros 64) rfl (Rd.ext (w := wm) ?_ e (Nat.le_refl _))
                  rw [← hwm]
                  have := (rd_new wz (bytes (zeros 64)).toArray 5).drew
                  simpa using this
                clear hwm
                refine hK.out _ _ em (fun hHeld => ?_)
                clear hK K
                try simp only [Act.put, List.setIfInBounds_toArray, List.set_cons_zero, List.set_cons_succ]
                have hv4 := hv3 _ (Ext.refl wm)
                clear hv3 k2
                refine oneL 25 rfl (by kernel_rfl) (by kernel_rfl) (fun K hK => ?_); go_simp
                refine hK.out _ _ em (fun hHeld => ?_)
                clear hK K
                try simp only [Act.put, List.setIfInBounds_toArray, List.set_cons_zero, List.set_cons_succ]
                refine takeL 26 (v := ?_) rfl (by kernel_rfl) (by kernel_rfl) (by kernel_rfl) (fun _ _ _ h => h) (by kernel_rfl) ?_ (by assumption) ?_; rotate_left; (focus (intro w hSw; (try dsimp only at hSw); go_simp <;> with_reducible rfl)); try simp only [Act.put, List.setIfInBounds_toArray, List.set_cons_zero, List.set_cons_succ]
                refine takeL 27 (v := ?_) rfl (by kernel_rfl) (by kernel_rfl) (by kernel_rfl) (fun _ _ _ h => h) (by kernel_rfl) ?_ (by assumption) ?_; rotate_left; (focus (intro w hSw; (try dsimp only at hSw); go_simp <;> with_reducible rfl)); try simp only [Act.put, List.setIfInBounds_toArray, List.set_cons_zero, List.set_cons_succ]
                refine takeL 28 (v := ?_) rfl (by kernel_rfl) (by kernel_rfl) (by kernel_rfl) (fun _ _ _ h => h) (by kernel_rfl) ?_ (by assumption) ?_; rotate_left; (focus (intro w hSw; (try dsimp only at hSw); go_simp <;> with_reducible rfl)); try simp only [Act.put, List.setIfInBounds_toArray, List.set_cons_zero, List.set_cons_succ]
                refine takeL 29 (v := ?_) rfl (by kernel_rfl) (by kernel_rfl) (by kernel_rfl) (fun _ _ _ h => h) (by kernel_rfl) ?_ (by assumption) ?_; rotate_left; (focus (intro w hSw; (try dsimp only at hSw); go_simp <;> with_reducible rfl)); try simp only [Act.put, List.setIfInBounds_toArray, List.set_cons_zero, List.set_cons_succ]
                refine takeL 30 (v := ?_) rfl (by kernel_rfl) (by kernel_rfl) (by kernel_rfl) (fun _ _ _ h => h) (by kernel_rfl) ?_ (by assumption) ?_; rotate_left; (focus (intro w hSw; (try dsimp only at hSw); go_simp <;> with_reducible rfl)); try simp only [Act.put, List.setIfInBounds_toArray, List.set_cons_zero, List.set_cons_succ]
                refine takeL 31 (v := ?_) rfl (by kernel_rfl) (by kernel_rfl) (by kernel_rfl) (fun _ _ _ h => h) (by kernel_rfl) ?_ (by assumption) ?_; rotate_left; (focus (intro w hSw; (try dsimp only at hSw); go_simp <;> with_reducible rfl)); try simp only [Act.put, List.setIfInBounds_toArray, List.set_cons_zero, List.set_cons_succ]
                refine takeL 32 (v := ?_) rfl (by kernel_rfl) (by kernel_rfl) (by kernel_rfl) (fun _ _ _ h => h) (by kernel_rfl) ?_ (by assumption) ?_; rotate_left; (focus (intro w hSw; (try dsimp only at hSw); go_simp <;> with_reducible rfl)); try simp only [Act.put, List.setIfInBounds_toArray, List.set_cons_zero, List.set_cons_succ]
                refine takeL 33 (v := ?_) rfl (by kernel_rfl) (by kernel_rfl) (by kernel_rfl) (fun _ _ _ h => h) (by kernel_rfl) ?_ (by assumption) ?_; rotate_left; (focus (intro w hSw; (try dsimp only at hSw); go_simp <;> with_reducible rfl)); try simp only [Act.put, List.setIfInBounds_toArray, List.set_cons_zero, List.set_cons_succ]
                refine takeL 34 (v := ?_) rfl (by kernel_rfl) (by kernel_rfl) (by kernel_rfl) (fun _ _ _ h => h) (by kernel_rfl) ?_ (by assumption) ?_; rotate_left; (focus (intro w hSw; (try dsimp only at hSw); go_simp <;> with_reducible rfl)); try simp only [Act.put, List.setIfInBounds_toArray, List.set_cons_zero, List.set_cons_succ]
                refine takeL 35 (v := ?_) rfl (by kernel_rfl) (by kernel_rfl) (by kernel_rfl) (fun _ _ _ h => h) (by kernel_rfl) ?_ (by assumption) ?_; rotate_left; (focus (intro w hSw; (try dsimp only at hSw); go_simp <;> with_reducible rfl)); try simp only [Act.put, List.setIfInBounds_toArray, List.set_cons_zero, List.set_cons_succ]
                refine takeL 36 (v := ?_) rfl (by kernel_rfl) (by kernel_rfl) (by kernel_rfl) (fun _ _ _ h => h) (by kernel_rfl) ?_ (by assumption) ?_; rotate_left; (focus (intro w hSw; (try dsimp only at hSw); go_simp <;> with_reducible rfl)); try simp only [Act.put, List.setIfInBounds_toArray, List.set_cons_zero, List.set_cons_succ]
                refine takeL 37 (v := ?_) rfl (by kernel_rfl) (by kernel_rfl) (by kernel_rfl) (fun _ _ _ h => h) (by kernel_rfl) ?_ (by assumption) ?_; rotate_left; (focus (intro w hSw; (try dsimp only at hSw); go_simp <;> with_reducible rfl)); try simp only [Act.put, List.setIfInBounds_toArray, List.set_cons_zero, List.set_cons_succ]
                refine takeL 38 (v := ?_) rfl (by kernel_rfl) (by kernel_rfl) (by kernel_rfl) (fun _ _ _ h => h) (by kernel_rfl) ?_ (by assumption) ?_; rotate_left; (focus (intro w hSw; (try dsimp only at hSw); go_simp <;> with_reducible rfl)); try simp only [Act.put, List.setIfInBounds_toArray, List.set_cons_zero, List.set_cons_succ]
                refine takeL 39 (v := ?_) rfl (by kernel_rfl) (by kernel_rfl) (by kernel_rfl) (fun _ _ _ h => h) (by kernel_rfl) ?_ (by assumption) ?_; rotate_left; (focus (intro w hSw; (try dsimp only at hSw); go_simp <;> with_reducible rfl)); try simp only [Act.put, List.setIfInBounds_toArray, List.set_cons_zero, List.set_cons_succ]
                refine takeL 40 (v := ?_) rfl (by kernel_rfl) (by kernel_rfl) (by kernel_rfl) (fun _ _ _ h => h) (by kernel_rfl) ?_ (by assumption) ?_; rotate_left; (focus (intro w hSw; (try dsimp only at hSw); go_simp <;> with_reducible rfl)); try simp only [Act.put, List.setIfInBounds_toArray, List.set_cons_zero, List.set_cons_succ]
                refine wpAnyH_done (by kernel_rfl) ?_ _
                go_wp2_with fail
                go_ret
                exact ⟨rfl, xz.trans em⟩
end Go.Proofs.Ythjpjhcbefhpbaa
