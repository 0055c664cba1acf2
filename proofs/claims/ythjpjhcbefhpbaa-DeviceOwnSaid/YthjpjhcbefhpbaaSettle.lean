/- device.settle. -/
import Derived.Test.YthjpjhcbefhpbaaCopied
namespace Go.Proofs.Ythjpjhcbefhpbaa
open Go.RowKit
set_option linter.unusedSimpArgs false
set_option linter.unusedVariables false

/-- octets that do not stand in block B -/
def Nb (B : Nat) (s : Oct) : Prop := s.xs ≠ [] → ∀ b o, s.A = some ⟨b, o, none⟩ → b ≠ B
theorem Rd.set_ne {w : World} {lo hi : Nat} {A : Option Addr} {cs : List Value} (h : Rd w lo hi A cs) {p : Addr} (hr : cs ≠ [] → ∀ b o, A = some ⟨b, o, none⟩ → b ≠ p.block) (u : Value) : Rd (w.setCell p u) lo hi A cs := fun hn => by
  obtain ⟨b, o, e, h1, h2, h3⟩ := h hn
  exact ⟨b, o, e, h1, h2, fun j v hv => (World.cell?_setCell_other w p _ u (fun e' => hr hn b o e (by rw [e']))).trans (h3 j v hv)⟩
theorem Oct.At.set_ne {w : World} {lo hi : Nat} {s : Oct} (h : Oct.At w lo hi s) {p : Addr} (hr : Nb p.block s) (u : Value) : Oct.At (w.setCell p u) lo hi s :=
  ⟨h.len, h.le, h.cap, h.rd.set_ne (fun hn => hr (octs_ne hn)) u, h.all⟩
theorem own_set_ne {w : World} {base n : Nat} {v : Value} {e : TypeId} {size : Nat} {cs : List Value} (h : w.ownsRow base e size v n cs) {p : Addr} (hp : v.ownBlock ≠ some p.block) (u : Value) : (w.setCell p u).ownsRow base e size v n cs := by
  refine ⟨h.1, ?_⟩
  rcases h.2 with h' | ⟨g, cap, cur, h1, h2, h3, h4⟩
  · exact .inl h'
  · exact .inr ⟨g, cap, cur, h1, h2, (Below.heap_setCell _ _ _ _ (by rintro rfl; exact hp (by rw [h1]; rfl))).trans h3, h4⟩
/-- a device of the call's own whose variable is block B -/
structure Dev.OwnB (w : World) (lo g B : Nat) (d : Dev) : Prop where
  at_ : Dev.OwnAt w lo g d
  gB : g < B
  lt : B < w.heap.size
  c0 : w.cell? ⟨B, 0, none⟩ = some d.secs.val
  c1 : w.cell? ⟨B, 1, none⟩ = some d.waits.val
  f0 : w.frozen? ⟨B, 0, none⟩ = false
  f1 : w.frozen? ⟨B, 1, none⟩ = false
  secs : ∀ s ∈ d.secs.xs, Nb B s
  own : d.waits.val.ownBlock ≠ some B
  waits : ∀ x ∈ d.waits.xs, Nb B x.data
section
variable {w w' : World} {lo g B : Nat} {d : Dev}
theorem Dev.OwnB.ext (h : Dev.OwnB w lo g B d) (e : Ext w w') : Dev.OwnB w' lo g B d :=
  ⟨h.at_.ext e, h.gB, Nat.lt_of_lt_of_le h.lt e.size, (Below.cell e h.lt).trans h.c0, (Below.cell e h.lt).trans h.c1, (Below.frozen e h.lt).trans h.f0, (Below.frozen e h.lt).trans h.f1, h.secs, h.own, h.waits⟩
/-- one sector set -/
theorem Dev.OwnB.put (h : Dev.OwnB w lo g B d) {k : Nat} (hk : k < d.secs.xs.length) {s : Oct} (hs : Oct.At w (g + 1) w.heap.size s) (ha : Ap d.waits.val s) (hn : Nb B s) :
    Dev.OwnB (w.setCell ⟨g, k, none⟩ s.val) lo g B ⟨⟨d.secs.A, d.secs.n, d.secs.c, d.secs.xs.set k s⟩, d.waits⟩ := by
  have hsz : (w.setCell ⟨g, k, none⟩ s.val).heap.size = w.heap.size := by simp
  have hne : g ≠ B := by have := h.gB; omega
  have keep : ∀ x : Oct, Oct.At w (g + 1) w.heap.size x → Oct.At (w.setCell ⟨g, k, none⟩ s.val) (g + 1) (w.setCell ⟨g, k, none⟩ s.val).heap.size x := fun x hx => by rw [hsz]; exact Oct.At.set_low hx (Nat.lt_succ_self g) _
  refine ⟨⟨h.at_.lo_g, by rw [hsz]; exact h.at_.g_lt, h.at_.secA, by rw [List.length_set]; exact h.at_.secn, h.at_.secc, h.at_.secm, ?_, fun x hx => ?_, h.at_.wn, own_set h.at_.own (Nat.lt_succ_self g) _,
    fun x hx => ⟨⟨(h.at_.waits x hx).1.p0, (h.at_.waits x hx).1.p1, keep _ (h.at_.waits x hx).1.data⟩, (h.at_.waits x hx).2⟩⟩, h.gB, by rw [hsz]; exact h.lt,
    (World.cell?_setCell_other _ _ _ _ (fun e => hne (by injection e))).trans h.c0, (World.cell?_setCell_other _ _ _ _ (fun e => hne (by injection e))).trans h.c1, (World.frozen?_setCell _ _ _ _).trans h.f0, (World.frozen?_setCell _ _ _ _).trans h.f1, fun x hx => ?_, h.own, h.waits⟩
  · rw [hsz]
    have := h.at_.row.set (k := k) (by rw [List.length_map]; exact hk) s.val
    rw [Nat.zero_add] at this
    simpa [List.map_set] using this
  · rcases List.mem_or_eq_of_mem_set hx with h' | rfl
    · exact ⟨keep x (h.at_.secs x h').1, (h.at_.secs x h').2⟩
    · exact ⟨keep x hs, ha⟩
  · rcases List.mem_or_eq_of_mem_set hx with h' | rfl
    · exact h.secs x h'
    · exact hn
/-- no write waits any more -/
theorem Dev.OwnB.clear (h : Dev.OwnB w lo g B d) : Dev.OwnB (w.setCell ⟨B, 1, none⟩ (.slice none 0 0)) lo g B ⟨d.secs, ⟨none, 0, 0, []⟩⟩ := by
  have hsz : (w.setCell ⟨B, 1, none⟩ (.slice none 0 0)).heap.size = w.heap.size := by simp
  have hne : g ≠ B := by have := h.gB; omega
  exact ⟨⟨h.at_.lo_g, by rw [hsz]; exact h.at_.g_lt, h.at_.secA, h.at_.secn, h.at_.secc, h.at_.secm, by rw [hsz]; exact h.at_.row.else_ (p := ⟨B, 1, none⟩) hne.symm _,
    fun s hs => ⟨by rw [hsz]; exact Oct.At.set_ne (h.at_.secs s hs).1 (h.secs s hs) _, (fun _ b o _ e => by cases e)⟩, rfl, World.ownsRow_nil _ _ _ _, (fun x hx => by simp at hx)⟩,
    h.gB, by rw [hsz]; exact h.lt, (World.cell?_setCell_other _ _ _ _ (fun e => by injection e with _ e2; omega)).trans h.c0, World.cell?_setCell_same _ _ _ h.c1, (World.frozen?_setCell _ _ _ _).trans h.f0, (World.frozen?_setCell _ _ _ _).trans h.f1, h.secs, (fun e => by cases e), (fun x hx => by simp at hx)⟩
end
/-- the sectors behind the first k writes, those that are kept -/
def setU (kp : Nat → Bool) (ws : List Wrt) (ss : List Oct) : Nat → List Oct
  | 0 => ss
  | k + 1 => match ws[k]? with
    | some x => if kp k then (setU kp ws ss k).set x.pos.toNat x.data else setU kp ws ss k
    | none => setU kp ws ss k
theorem setU_length (kp : Nat → Bool) (ws : List Wrt) (ss : List Oct) : ∀ k, (setU kp ws ss k).length = ss.length
  | 0 => rfl
  | k + 1 => by
    unfold setU
    split
    · split
      · rw [List.length_set, setU_length]
      · exact setU_length kp ws ss k
    · exact setU_length kp ws ss k
set_option maxRecDepth 100000 in
set_option maxHeartbeats 2000000 in
theorem settle_any (d : Dev) (w : World) (lo g B : Nat) (h : Dev.OwnB w lo g B d) (hpos : ∀ x ∈ d.waits.xs, 0 ≤ x.pos ∧ x.pos < (d.secs.n : Int)) (kp : Nat → Bool) (F : Value) (f : FuncId) (caps : Array Value) (hf : F = .func (.func f) #[] caps)
    (hcf : ∀ args w, (callFunc f args).run Try.prog w = .ok (.enter f args) w) (hF : ∀ i, i < d.waits.n → ∀ w1, Below lo w w1 → Calls Try.prog f (#[.int .i64 (i : Int)] ++ caps) w1 fun e w' => e = .returned (.bool (kp i)) ∧ Ext w1 w') :
    Calls Try.prog 18 #[.pointer (some ⟨B, 0, none⟩), F] w fun e w' => e = .returned (.tuple #[]) ∧ Dev.OwnB w' lo g B ⟨⟨d.secs.A, d.secs.n, d.secs.c, setU kp d.waits.xs d.secs.xs d.waits.n⟩, ⟨none, 0, 0, []⟩⟩ ∧ Below lo w w' := by
  subst hf
  have HF := Lib.hid hF
  have HP := Lib.hid hpos
  have H := Lib.hid h
  have hlg := h.at_.lo_g
  have hB := h.gB
  have Hwn := Lib.hid h.at_.wn
  have c1 := h.c1
  clear hF hpos h
  obtain ⟨⟨A, n, c, xs⟩, ⟨vA, m, vc, ws⟩⟩ := d
  simp only [Sl.val] at c1
  have hm : m ≤ 9223372036854775807 := by
    obtain ⟨_, h2, h3⟩ := own_le H.out.at_.own rfl
    have h4 : m ≤ maxLen := Nat.le_trans h2 h3
    exact h4
  go_enter Try.func18, Try.ntmps18
  go_wp2_with fail
  go_loopw [11] (fun i wr => ∃ k : Nat, k ≤ m ∧ i = .int .i64 k ∧ Hid (Dev.OwnB wr lo g B ⟨⟨A, n, c, setU kp ws xs k⟩, ⟨vA, m, vc, ws⟩⟩) ∧ Below lo w wr) (fun i _ => m - (intOf i).toNat)
  case atStart => exact ⟨0, Nat.zero_le _, rfl, H, Below.refl _ _⟩
  case round =>
    obtain ⟨k, hk, rfl, HD, e1⟩ := hrel
    by_cases hlt : k < m
    · have hl : k < ws.length := by rw [← Hwn.out]; exact hlt
      obtain ⟨b1, o1, rfl, _, hb1, G0⟩ := rd_flat (size := 2) (fun _ => rfl) (by omega) HD.out.at_.at_.waits.rd hl
      have HX := Lib.hid (HD.out.at_.waits ws[k] (List.getElem_mem _))
      have HN := Lib.hid (HD.out.waits ws[k] (List.getElem_mem _))
      have HQ := Lib.hid (HP.out ws[k] (List.getElem_mem _))
      have HC := Lib.hid (fun w1 (e : Ext wr w1) => HF.out k hlt w1 (e1.trans (Below.mono e (by have := HD.out.lt; omega))))
      have hsU := Lib.hid (show setU kp ws xs (k + 1) = if kp k then (setU kp ws xs k).set ws[k].pos.toNat ws[k].data else setU kp ws xs k by rw [setU, List.getElem?_eq_getElem hl])
      have G1 : wr.cell? ⟨b1, o1 + k * 2, none⟩ = some (.int .i64 ws[k].pos) := by simpa using G0 0 _ rfl
      have G2 : wr.cell? ⟨b1, o1 + k * 2 + 1, none⟩ = some ws[k].data.val := by simpa using G0 1 _ rfl
      clear G0
      generalize ws[k] = y at *
      obtain ⟨pos, s⟩ := y
      obtain ⟨sA, sn, sc, hsv⟩ : ∃ A n c, s.val = .slice A n c := ⟨_, _, _, rfl⟩
      have HV := Lib.hid hsv
      simp only [hsv] at G2
      clear hsv
      have c0' : wr.cell? ⟨B, 0, none⟩ = some (.slice A n c) := HD.out.c0
      have q0 : (0 : Int) ≤ k := by omega
      have q1 : (k : Int) < m := by omega
      have hBl := HD.out.lt
      go_wp2_with fail
      generalize hw1 : World.alloc wr _ = w1
      obtain ⟨e4, z4, G4⟩ := box_cells hw1
      have g0 := G4 0 _ rfl
      have g1 := G4 1 _ rfl
      have Z4 := Lib.hid z4
      clear hw1 G4 z4
      have r4 := Ext.refl w1
      refine (HC.out _ (by (repeat (first | exact Below.refl _ _ | exact Ext.refl _ | assumption | refine Below.drew ?_ | refine below_drewN ?_ _ | refine below_alloc ?_ (by first | exact Nat.le_refl _ | assumption | (simp; done) | omega | (simp; omega)) _ | refine below_ext ?_ (by assumption) (by first | exact Nat.le_refl _ | assumption | (simp; done) | omega | (simp; omega)) | refine Ext.drew ?_ | refine Ext.drewN ?_ _ | refine Ext.alloc ?_ _ | refine Ext.setCell ?_ (by first | assumption | (simp; done) | (simp; omega)) _ | refine Below.setCell ?_ (by first | assumption | (simp; done) | (simp; omega)) _ | refine Ext.trans ?_ (by assumption))))).mono ?_
      rintro e w2 ⟨rfl, e2⟩
      have e5 : Ext w1 w2 := by (repeat (first | exact Below.refl _ _ | exact Ext.refl _ | assumption | refine Below.drew ?_ | refine below_drewN ?_ _ | refine below_alloc ?_ (by first | exact Nat.le_refl _ | assumption | (simp; done) | omega | (simp; omega)) _ | refine below_ext ?_ (by assumption) (by first | exact Nat.le_refl _ | assumption | (simp; done) | omega | (simp; omega)) | refine Ext.drew ?_ | refine Ext.drewN ?_ _ | refine Ext.alloc ?_ _ | refine Ext.setCell ?_ (by first | assumption | (simp; done) | (simp; omega)) _ | refine Below.setCell ?_ (by first | assumption | (simp; done) | (simp; omega)) _ | refine Ext.trans ?_ (by assumption)))
      have e6 : Ext wr w2 := e4.trans e5
      have HD2 := Lib.hid (HD.out.ext e6)
      have HX2 := Lib.hid (Wrt.At.imp HX.out.1 (rd_on e6 (Nat.le_refl _)))
      have e7 : Below lo w w2 := e1.trans (Below.mono e6 (by omega))
      cases hkp : kp k
      · have hsU2 := Lib.hid (show setU kp ws xs (k + 1) = setU kp ws xs k by rw [hsU.out, hkp]; simp)
        go_wp2_with fail
        go_roundw
        case rel => exact ⟨k + 1, by omega, by go_num, Lib.hid (by rw [hsU2.out]; exact HD2.out), e7⟩
        case measure => simp [intOf]; omega
      · have hsU2 := Lib.hid (show setU kp ws xs (k + 1) = (setU kp ws xs k).set pos.toNat s by rw [hsU.out, hkp]; simp)
        have c0'' : w2.cell? ⟨B, 0, none⟩ = some (.slice A n c) := HD2.out.c0
        obtain ⟨p0, p1⟩ := HQ.out
        have hA2 : A = some ⟨g, 0, none⟩ := HD.out.at_.secA
        subst hA2
        have hn : n = xs.length := by have := HD.out.at_.secn; rw [setU_length] at this; exact this
        obtain ⟨pn, rfl⟩ : ∃ pn : Nat, pos = (pn : Int) := ⟨pos.toNat, by omega⟩
        have p1' : pn < n := by omega
        have p2 : (0 : Int) ≤ (pn : Int) := by omega
        have p3 : (pn : Int) < (n : Int) := by omega
        obtain ⟨s1, s2⟩ := HD2.out.at_.row.cell (k := pn) (List.getElem?_eq_getElem (by rw [List.length_map, setU_length, ← hn]; exact p1'))
        rw [Nat.zero_add] at s1 s2
        generalize (List.map Sl.val _)[pn]'_ = ov at s1
        clear p0 p1
        have Hn2 := Lib.hid hn
        clear hn
        go_wp2_with fail
        refine rgnE (S := fun w' => w'.cell? ⟨B, 0, none⟩ = some (.slice (some ⟨g, 0, none⟩) n c) ∧ w'.cell? ⟨wr.heap.size, 0, none⟩ = some (.int .i64 (pn : Int)) ∧ w'.cell? ⟨wr.heap.size, 1, none⟩ = some (.slice sA sn sc)) (by kernel_rfl) ⟨c0'', g0 _ (by (repeat (first | exact Below.refl _ _ | exact Ext.refl _ | assumption | refine Below.drew ?_ | refine below_drewN ?_ _ | refine below_alloc ?_ (by first | exact Nat.le_refl _ | assumption | (simp; done) | omega | (simp; omega)) _ | refine below_ext ?_ (by assumption) (by first | exact Nat.le_refl _ | assumption | (simp; done) | omega | (simp; omega)) | refine Ext.drew ?_ | refine Ext.drewN ?_ _ | refine Ext.alloc ?_ _ | refine Ext.setCell ?_ (by first | assumption | (simp; done) | (simp; omega)) _ | refine Below.setCell ?_ (by first | assumption | (simp; done) | (simp; omega)) _ | refine Ext.trans ?_ (by assumption)))), g1 _ (by (repeat (first | exact Below.refl _ _ | exact Ext.refl _ | assumption | refine Below.drew ?_ | refine below_drewN ?_ _ | refine below_alloc ?_ (by first | exact Nat.le_refl _ | assumption | (simp; done) | omega | (simp; omega)) _ | refine below_ext ?_ (by assumption) (by first | exact Nat.le_refl _ | assumption | (simp; done) | omega | (simp; omega)) | refine Ext.drew ?_ | refine Ext.drewN ?_ _ | refine Ext.alloc ?_ _ | refine Ext.setCell ?_ (by first | assumption | (simp; done) | (simp; omega)) _ | refine Below.setCell ?_ (by first | assumption | (simp; done) | (simp; omega)) _ | refine Ext.trans ?_ (by assumption))))⟩ (fun hHeld => ?_)
        refine takeE 0 (v := ?_) rfl (by kernel_rfl) (by kernel_rfl) (by kernel_rfl) (by kernel_rfl) (fun _ _ _ h => h) (by kernel_rfl) ?_ (by assumption) ?_; rotate_left; (focus (intro w hSw; (try dsimp only at hSw); (try go_split_ands); go_simp <;> with_reducible rfl)); try simp only [Act.put, List.setIfInBounds_toArray, List.set_cons_zero, List.set_cons_succ]
        refine takeE 1 (v := ?_) rfl (by kernel_rfl) (by kernel_rfl) (by kernel_rfl) (by kernel_rfl) (fun _ _ _ h => h) (by kernel_rfl) ?_ (by assumption) ?_; rotate_left; (focus (intro w hSw; (try dsimp only at hSw); (try go_split_ands); go_simp <;> with_reducible rfl)); try simp only [Act.put, List.setIfInBounds_toArray, List.set_cons_zero, List.set_cons_succ]
        refine takeE 2 (v := ?_) rfl (by kernel_rfl) (by kernel_rfl) (by kernel_rfl) (by kernel_rfl) (fun _ _ _ h => h) (by kernel_rfl) ?_ (by assumption) ?_; rotate_left; (focus (intro w hSw; (try dsimp only at hSw); (try go_split_ands); go_simp <;> with_reducible rfl)); try simp only [Act.put, List.setIfInBounds_toArray, List.set_cons_zero, List.set_cons_succ]
        refine takeE 3 (v := ?_) rfl (by kernel_rfl) (by kernel_rfl) (by kernel_rfl) (by kernel_rfl) (fun _ _ _ h => h) (by kernel_rfl) ?_ (by assumption) ?_; rotate_left; (focus (intro w hSw; (try dsimp only at hSw); (try go_split_ands); go_simp <;> with_reducible rfl)); try simp only [Act.put, List.setIfInBounds_toArray, List.set_cons_zero, List.set_cons_succ]
        refine takeE 4 (v := ?_) rfl (by kernel_rfl) (by kernel_rfl) (by kernel_rfl) (by kernel_rfl) (fun _ _ _ h => h) (by kernel_rfl) ?_ (by assumption) ?_; rotate_left; (focus (intro w hSw; (try dsimp only at hSw); (try go_split_ands); go_simp <;> with_reducible rfl)); try simp only [Act.put, List.setIfInBounds_toArray, List.set_cons_zero, List.set_cons_succ]
        refine takeE 5 (v := ?_) rfl (by kernel_rfl) (by kernel_rfl) (by kernel_rfl) (by kernel_rfl) (fun _ _ _ h => h) (by kernel_rfl) ?_ (by assumption) ?_; rotate_left; (focus (intro w hSw; (try dsimp only at hSw); (try go_split_ands); go_simp <;> with_reducible rfl)); try simp only [Act.put, List.setIfInBounds_toArray, List.set_cons_zero, List.set_cons_succ]
        refine takeE 6 (v := ?_) rfl (by kernel_rfl) (by kernel_rfl) (by kernel_rfl) (by kernel_rfl) (fun _ _ _ h => h) (by kernel_rfl) ?_ (by assumption) ?_; rotate_left; (focus (intro w hSw; (try dsimp only at hSw); (try go_split_ands); go_simp <;> with_reducible rfl)); try simp only [Act.put, List.setIfInBounds_toArray, List.set_cons_zero, List.set_cons_succ]
        refine takeE 7 (v := ?_) rfl (by kernel_rfl) (by kernel_rfl) (by kernel_rfl) (by kernel_rfl) (fun _ _ _ h => h) (by kernel_rfl) ?_ (by assumption) ?_; rotate_left; (focus (intro w hSw; (try dsimp only at hSw); (try go_split_ands); go_simp <;> with_reducible rfl)); try simp only [Act.put, List.setIfInBounds_toArray, List.set_cons_zero, List.set_cons_succ]
        refine takeE 8 (v := ?_) rfl (by kernel_rfl) (by kernel_rfl) (by kernel_rfl) (by kernel_rfl) (fun _ _ _ h => h) (by kernel_rfl) ?_ (by assumption) ?_; rotate_left; (focus (intro w hSw; (try dsimp only at hSw); (try go_split_ands); go_simp <;> with_reducible rfl)); try simp only [Act.put, List.setIfInBounds_toArray, List.set_cons_zero, List.set_cons_succ]
        refine lastE 9 rfl (by kernel_rfl) (by kernel_rfl) (by kernel_rfl) (by kernel_rfl) (fun K hK => ?_); (try go_simp)
        refine hK.out _ _ ?_; clear hK K; try simp only [Act.put, List.setIfInBounds_toArray, List.set_cons_zero, List.set_cons_succ]
        go_wp2_with fail
        go_roundw
        case rel =>
          refine ⟨k + 1, by omega, by go_num, Lib.hid ?_, ?_⟩
          · rw [hsU2.out, ← HV.out]
            have := HD2.out.put (k := pn) (by show pn < (setU kp ws xs k).length; rw [setU_length, ← Hn2.out]; exact p1') HX2.out.data HX.out.2 HN.out
            have h9 := this.ext ((Ext.refl _).drew)
            simpa using h9
          · rw [← HV.out]; exact (e7.setCell (p := ⟨g, pn, none⟩) hlg _).drew
        case measure => simp [intOf]; omega
    · obtain rfl : k = m := by omega
      have f1' : wr.frozen? ⟨B, 1, none⟩ = false := HD.out.f1
      have c1' : wr.cell? ⟨B, 1, none⟩ = some (.slice vA k vc) := HD.out.c1
      have hBl := HD.out.lt
      go_wp2_with fail
      go_end0
      exact ⟨rfl, HD.out.clear, e1.setCell (p := ⟨B, 1, none⟩) (by show lo ≤ B; omega) _⟩
end Go.Proofs.Ythjpjhcbefhpbaa
