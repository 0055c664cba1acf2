/- The texts Settle, Fault, Crash in one file. -/
import Derived.Test.YtfongpdeflfioaaGreatM16
import Derived.Test.YtfongpdeflfioaaGreatM5
/- device.settle. -/
namespace Go.Proofs.YtfongpdeflfioaaGreat
open Go.RowKit
set_option linter.unusedSimpArgs false
set_option linter.unusedVariables false

/-- octets that do not stand in block B -/
def Nb (B : Nat) (s : Oct) : Prop := s.xs ≠ [] → ∀ b o, s.A = some ⟨b, o, none⟩ → b ≠ B
theorem Rd.set_ne {w : World} {lo hi : Nat} {A : Option Addr} {cs : List Value} (h : Rd w lo hi A cs) {p : Addr} (hr : cs ≠ [] → ∀ b o, A = some ⟨b, o, none⟩ → b ≠ p.block) (u : Value) : Rd (w.setCell p u) lo hi A cs := fun hn => by
  obtain ⟨b, o, e, h1, h2, h3⟩ := h hn
  exact ⟨b, o, e, h1, h2, fun j v hv => (World.cell?_setCell_other w p _ u (fun e' => hr hn b o e (by rw [e']))).trans (h3 j v hv)⟩
theorem Oct.At.set_ne {w : World} {lo hi : Nat} {s : Oct} (h : Oct.At w lo hi s) {p : Addr} (hr : Nb p.block s) (u : Value) : Oct.At (w.setCell p u) lo hi s :=
  ⟨h.len, h.le, h.cap, h.rd.set_ne (fun hn => hr (octs_ne hn)) u, h.all⟩
theorem own_set_ne {w : World} {base n : Nat} {v : Value} {e : TypeId} {size : Nat} {cs : List Value} (h : w.ownsRow base e size v n cs) {p : Addr} (hp : v.ownBlock ≠ some p.block) (u : Value) : (w.setCell p u).ownsRow base e size v n cs := by
  refine ⟨h.1, ?_⟩
  rcases h.2 with h' | ⟨g, cap, cur, h1, h2, h3, h4⟩
  · exact .inl h'
  · exact .inr ⟨g, cap, cur, h1, h2, (Below.heap_setCell _ _ _ _ (by rintro rfl; exact hp (by rw [h1]; rfl))).trans h3, h4⟩
/-- a device of the call's own whose variable is block B -/
structure Dev.OwnB (w : World) (lo g B : Nat) (d : Dev) : Prop where
  at_ : Dev.OwnAt w lo g d
  gB : g < B
  lt : B < w.heap.size
  c0 : w.cell? ⟨B, 0, none⟩ = some d.secs.val
  c1 : w.cell? ⟨B, 1, none⟩ = some d.waits.val
  f0 : w.frozen? ⟨B, 0, none⟩ = false
  f1 : w.frozen? ⟨B, 1, none⟩ = false
  secs : ∀ s ∈ d.secs.xs, Nb B s
  own : d.waits.val.ownBlock ≠ some B
  waits : ∀ x ∈ d.waits.xs, Nb B x.data
section
variable {w w' : World} {lo g B : Nat} {d : Dev}
theorem Dev.OwnB.ext (h : Dev.OwnB w lo g B d) (e : Ext w w') : Dev.OwnB w' lo g B d :=
  ⟨h.at_.ext e, h.gB, Nat.lt_of_lt_of_le h.lt e.size, (Below.cell e h.lt).trans h.c0, (Below.cell e h.lt).trans h.c1, (Below.frozen e h.lt).trans h.f0, (Below.frozen e h.lt).trans h.f1, h.secs, h.own, h.waits⟩
/-- one sector set -/
theorem Dev.OwnB.put (h : Dev.OwnB w lo g B d) {k : Nat} (hk : k < d.secs.xs.length) {s : Oct} (hs : Oct.At w (g + 1) w.heap.size s) (ha : Ap d.waits.val s) (hn : Nb B s) :
    Dev.OwnB (w.setCell ⟨g, k, none⟩ s.val) lo g B ⟨⟨d.secs.A, d.secs.n, d.secs.c, d.secs.xs.set k s⟩, d.waits⟩ := by
  have hsz : (w.setCell ⟨g, k, none⟩ s.val).heap.size = w.heap.size := by simp
  have hne : g ≠ B := by have := h.gB; omega
  have keep : ∀ x : Oct, Oct.At w (g + 1) w.heap.size x → Oct.At (w.setCell ⟨g, k, none⟩ s.val) (g + 1) (w.setCell ⟨g, k, none⟩ s.val).heap.size x := fun x hx => by rw [hsz]; exact Oct.At.set_low hx (Nat.lt_succ_self g) _
  refine ⟨⟨h.at_.lo_g, by rw [hsz]; exact h.at_.g_lt, h.at_.secA, by rw [List.length_set]; exact h.at_.secn, h.at_.secc, h.at_.secm, ?_, fun x hx => ?_, h.at_.wn, own_set h.at_.own (Nat.lt_succ_self g) _,
    fun x hx => ⟨⟨(h.at_.waits x hx).1.p0, (h.at_.waits x hx).1.p1, keep _ (h.at_.waits x hx).1.data⟩, (h.at_.waits x hx).2⟩⟩, h.gB, by rw [hsz]; exact h.lt,
    (World.cell?_setCell_other _ _ _ _ (fun e => hne (by injection e))).trans h.c0, (World.cell?_setCell_other _ _ _ _ (fun e => hne (by injection e))).trans h.c1, (World.frozen?_setCell _ _ _ _).trans h.f0, (World.frozen?_setCell _ _ _ _).trans h.f1, fun x hx => ?_, h.own, h.waits⟩
  · rw [hsz]
    have := h.at_.row.set (k := k) (by rw [List.length_map]; exact hk) s.val
    rw [Nat.zero_add] at this
    simpa [List.map_set] using this
  · rcases List.mem_or_eq_of_mem_set hx with h' | rfl
    · exact ⟨keep x (h.at_.secs x h').1, (h.at_.secs x h').2⟩
    · exact ⟨keep x hs, ha⟩
  · rcases List.mem_or_eq_of_mem_set hx with h' | rfl
    · exact h.secs x h'
    · exact hn
/-- no write waits any more -/
theorem Dev.OwnB.clear (h : Dev.OwnB w lo g B d) : Dev.OwnB (w.setCell ⟨B, 1, none⟩ (.slice none 0 0)) lo g B ⟨d.secs, ⟨none, 0, 0, []⟩⟩ := by
  have hsz : (w.setCell ⟨B, 1, none⟩ (.slice none 0 0)).heap.size = w.heap.size := by simp
  have hne : g ≠ B := by have := h.gB; omega
  exact ⟨⟨h.at_.lo_g, by rw [hsz]; exact h.at_.g_lt, h.at_.secA, h.at_.secn, h.at_.secc, h.at_.secm, by rw [hsz]; exact h.at_.row.else_ (p := ⟨B, 1, none⟩) hne.symm _,
    fun s hs => ⟨by rw [hsz]; exact Oct.At.set_ne (h.at_.secs s hs).1 (h.secs s hs) _, (fun _ b o _ e => by cases e)⟩, rfl, World.ownsRow_nil _ _ _ _, (fun x hx => by simp at hx)⟩,
    h.gB, by rw [hsz]; exact h.lt, (World.cell?_setCell_other _ _ _ _ (fun e => by injection e with _ e2; omega)).trans h.c0, World.cell?_setCell_same _ _ _ h.c1, (World.frozen?_setCell _ _ _ _).trans h.f0, (World.frozen?_setCell _ _ _ _).trans h.f1, h.secs, (fun e => by cases e), (fun x hx => by simp at hx)⟩
end
/-- the sectors behind the first k writes, those that are kept -/
def setU (kp : Nat → Bool) (ws : List Wrt) (ss : List Oct) : Nat → List Oct
  | 0 => ss
  | k + 1 => match ws[k]? with
    | some x => if kp k then (setU kp ws ss k).set x.pos.toNat x.data else setU kp ws ss k
    | none => setU kp ws ss k
theorem setU_length (kp : Nat → Bool) (ws : List Wrt) (ss : List Oct) : ∀ k, (setU kp ws ss k).length = ss.length
  | 0 => rfl
  | k + 1 => by
    unfold setU
    split
    · split
      · rw [List.length_set, setU_length]
      · exact setU_length kp ws ss k
    · exact setU_length kp ws ss k
set_option maxRecDepth 100000 in
set_option maxHeartbeats 2000000 in
theorem settle_any (d : Dev) (w : World) (lo g B : Nat) (h : Dev.OwnB w lo g B d) (hpos : ∀ x ∈ d.waits.xs, 0 ≤ x.pos ∧ x.pos < (d.secs.n : Int)) (kp : Nat → Bool) (F : Value) (f : FuncId) (caps : Array Value) (hf : F = .func (.func f) #[] caps)
    (hcf : ∀ args w, (callFunc f args).run Tryz.prog w = .ok (.enter f args) w) (hF : ∀ i, i < d.waits.n → ∀ w1, Below lo w w1 → Calls Tryz.prog f (#[.int .i64 (i : Int)] ++ caps) w1 fun e w' => e = .returned (.bool (kp i)) ∧ Ext w1 w') :
    Calls Tryz.prog 63 #[.pointer (some ⟨B, 0, none⟩), F] w fun e w' => e = .returned (.tuple #[]) ∧ Dev.OwnB w' lo g B ⟨⟨d.secs.A, d.secs.n, d.secs.c, setU kp d.waits.xs d.secs.xs d.waits.n⟩, ⟨none, 0, 0, []⟩⟩ ∧ Below lo w w' := by
  subst hf
  have HF := Lib.hid hF
  have HP := Lib.hid hpos
  have H := Lib.hid h
  have hlg := h.at_.lo_g
  have hB := h.gB
  have Hwn := Lib.hid h.at_.wn
  have c1 := h.c1
  clear hF hpos h
  obtain ⟨⟨A, n, c, xs⟩, ⟨vA, m, vc, ws⟩⟩ := d
  simp only [Sl.val] at c1
  have hm : m ≤ 9223372036854775807 := by
    obtain ⟨_, h2, h3⟩ := own_le H.out.at_.own rfl
    have h4 : m ≤ maxLen := Nat.le_trans h2 h3
    exact h4
  go_enter Tryz.func63, Tryz.ntmps63
  go_wp2_with fail
  go_loopw [11] (fun i wr => ∃ k : Nat, k ≤ m ∧ i = .int .i64 k ∧ Hid (Dev.OwnB wr lo g B ⟨⟨A, n, c, setU kp ws xs k⟩, ⟨vA, m, vc, ws⟩⟩) ∧ Below lo w wr) (fun i _ => m - (intOf i).toNat)
  case atStart => exact ⟨0, Nat.zero_le _, rfl, H, Below.refl _ _⟩
  case round =>
    obtain ⟨k, hk, rfl, HD, e1⟩ := hrel
    by_cases hlt : k < m
    · have hl : k < ws.length := by rw [← Hwn.out]; exact hlt
      obtain ⟨b1, o1, rfl, _, hb1, G0⟩ := rd_flat (size := 2) (fun _ => rfl) (by omega) HD.out.at_.at_.waits.rd hl
      have HX := Lib.hid (HD.out.at_.waits ws[k] (List.getElem_mem _))
      have HN := Lib.hid (HD.out.waits ws[k] (List.getElem_mem _))
      have HQ := Lib.hid (HP.out ws[k] (List.getElem_mem _))
      have HC := Lib.hid (fun w1 (e : Ext wr w1) => HF.out k hlt w1 (e1.trans (Below.mono e (by have := HD.out.lt; omega))))
      have hsU := Lib.hid (show setU kp ws xs (k + 1) = if kp k then (setU kp ws xs k).set ws[k].pos.toNat ws[k].data else setU kp ws xs k by rw [setU, List.getElem?_eq_getElem hl])
      have G1 : wr.cell? ⟨b1, o1 + k * 2, none⟩ = some (.int .i64 ws[k].pos) := by simpa using G0 0 _ rfl
      have G2 : wr.cell? ⟨b1, o1 + k * 2 + 1, none⟩ = some ws[k].data.val := by simpa using G0 1 _ rfl
      clear G0
      generalize ws[k] = y at *
      obtain ⟨pos, s⟩ := y
      obtain ⟨sA, sn, sc, hsv⟩ : ∃ A n c, s.val = .slice A n c := ⟨_, _, _, rfl⟩
      have HV := Lib.hid hsv
      simp only [hsv] at G2
      clear hsv
      have c0' : wr.cell? ⟨B, 0, none⟩ = some (.slice A n c) := HD.out.c0
      have q0 : (0 : Int) ≤ k := by omega
      have q1 : (k : Int) < m := by omega
      have hBl := HD.out.lt
      go_wp2_with fail
      generalize hw1 : World.alloc wr _ = w1
      obtain ⟨e4, z4, G4⟩ := box_cells hw1
      have g0 := G4 0 _ rfl
      have g1 := G4 1 _ rfl
      have Z4 := Lib.hid z4
      clear hw1 G4 z4
      have r4 := Ext.refl w1
      refine (HC.out _ (by (repeat (first | exact Below.refl _ _ | exact Ext.refl _ | assumption | refine Below.drew ?_ | refine below_drewN ?_ _ | refine below_alloc ?_ (by first | exact Nat.le_refl _ | assumption | (simp; done) | omega | (simp; omega)) _ | refine below_ext ?_ (by assumption) (by first | exact Nat.le_refl _ | assumption | (simp; done) | omega | (simp; omega)) | refine Ext.drew ?_ | refine Ext.drewN ?_ _ | refine Ext.alloc ?_ _ | refine Ext.setCell ?_ (by first | assumption | (simp; done) | (simp; omega)) _ | refine Below.setCell ?_ (by first | assumption | (simp; done) | (simp; omega)) _ | refine Ext.trans ?_ (by assumption))))).mono ?_
      rintro e w2 ⟨rfl, e2⟩
      have e5 : Ext w1 w2 := by (repeat (first | exact Below.refl _ _ | exact Ext.refl _ | assumption | refine Below.drew ?_ | refine below_drewN ?_ _ | refine below_alloc ?_ (by first | exact Nat.le_refl _ | assumption | (simp; done) | omega | (simp; omega)) _ | refine below_ext ?_ (by assumption) (by first | exact Nat.le_refl _ | assumption | (simp; done) | omega | (simp; omega)) | refine Ext.drew ?_ | refine Ext.drewN ?_ _ | refine Ext.alloc ?_ _ | refine Ext.setCell ?_ (by first | assumption | (simp; done) | (simp; omega)) _ | refine Below.setCell ?_ (by first | assumption | (simp; done) | (simp; omega)) _ | refine Ext.trans ?_ (by assumption)))
      have e6 : Ext wr w2 := e4.trans e5
      have HD2 := Lib.hid (HD.out.ext e6)
      have HX2 := Lib.hid (Wrt.At.imp HX.out.1 (rd_on e6 (Nat.le_refl _)))
      have e7 : Below lo w w2 := e1.trans (Below.mono e6 (by omega))
      cases hkp : kp k
      · have hsU2 := Lib.hid (show setU kp ws xs (k + 1) = setU kp ws xs k by rw [hsU.out, hkp]; simp)
        go_wp2_with fail
        go_roundw
        case rel => exact ⟨k + 1, by omega, by go_num, Lib.hid (by rw [hsU2.out]; exact HD2.out), e7⟩
        case measure => simp [intOf]; omega
      · have hsU2 := Lib.hid (show setU kp ws xs (k + 1) = (setU kp ws xs k).set pos.toNat s by rw [hsU.out, hkp]; simp)
        have c0'' : w2.cell? ⟨B, 0, none⟩ = some (.slice A n c) := HD2.out.c0
        obtain ⟨p0, p1⟩ := HQ.out
        have hA2 : A = some ⟨g, 0, none⟩ := HD.out.at_.secA
        subst hA2
        have hn : n = xs.length := by have := HD.out.at_.secn; rw [setU_length] at this; exact this
        obtain ⟨pn, rfl⟩ : ∃ pn : Nat, pos = (pn : Int) := ⟨pos.toNat, by omega⟩
        have p1' : pn < n := by omega
        have p2 : (0 : Int) ≤ (pn : Int) := by omega
        have p3 : (pn : Int) < (n : Int) := by omega
        obtain ⟨s1, s2⟩ := HD2.out.at_.row.cell (k := pn) (List.getElem?_eq_getElem (by rw [List.length_map, setU_length, ← hn]; exact p1'))
        rw [Nat.zero_add] at s1 s2
        generalize (List.map Sl.val _)[pn]'_ = ov at s1
        clear p0 p1
        have Hn2 := Lib.hid hn
        clear hn
        go_wp2_with fail
        refine rgnE (S := fun w' => w'.cell? ⟨B, 0, none⟩ = some (.slice (some ⟨g, 0, none⟩) n c) ∧ w'.cell? ⟨wr.heap.size, 0, none⟩ = some (.int .i64 (pn : Int)) ∧ w'.cell? ⟨wr.heap.size, 1, none⟩ = some (.slice sA sn sc)) (by kernel_rfl) ⟨c0'', g0 _ (by (repeat (first | exact Below.refl _ _ | exact Ext.refl _ | assumption | refine Below.drew ?_ | refine below_drewN ?_ _ | refine below_alloc ?_ (by first | exact Nat.le_refl _ | assumption | (simp; done) | omega | (simp; omega)) _ | refine below_ext ?_ (by assumption) (by first | exact Nat.le_refl _ | assumption | (simp; done) | omega | (simp; omega)) | refine Ext.drew ?_ | refine Ext.drewN ?_ _ | refine Ext.alloc ?_ _ | refine Ext.setCell ?_ (by first | assumption | (simp; done) | (simp; omega)) _ | refine Below.setCell ?_ (by first | assumption | (simp; done) | (simp; omega)) _ | refine Ext.trans ?_ (by assumption)))), g1 _ (by (repeat (first | exact Below.refl _ _ | exact Ext.refl _ | assumption | refine Below.drew ?_ | refine below_drewN ?_ _ | refine below_alloc ?_ (by first | exact Nat.le_refl _ | assumption | (simp; done) | omega | (simp; omega)) _ | refine below_ext ?_ (by assumption) (by first | exact Nat.le_refl _ | assumption | (simp; done) | omega | (simp; omega)) | refine Ext.drew ?_ | refine Ext.drewN ?_ _ | refine Ext.alloc ?_ _ | refine Ext.setCell ?_ (by first | assumption | (simp; done) | (simp; omega)) _ | refine Below.setCell ?_ (by first | assumption | (simp; done) | (simp; omega)) _ | refine Ext.trans ?_ (by assumption))))⟩ (fun hHeld => ?_)
        refine takeE 0 (v := ?_) rfl (by kernel_rfl) (by kernel_rfl) (by kernel_rfl) (by kernel_rfl) (fun _ _ _ h => h) (by kernel_rfl) ?_ (by assumption) ?_; rotate_left; (focus (intro w hSw; (try dsimp only at hSw); (try go_split_ands); go_simp <;> with_reducible rfl)); (try simp only [Act.put, List.setIfInBounds_toArray, List.set_cons_zero, List.set_cons_succ])
        refine takeE 1 (v := ?_) rfl (by kernel_rfl) (by kernel_rfl) (by kernel_rfl) (by kernel_rfl) (fun _ _ _ h => h) (by kernel_rfl) ?_ (by assumption) ?_; rotate_left; (focus (intro w hSw; (try dsimp only at hSw); (try go_split_ands); go_simp <;> with_reducible rfl)); (try simp only [Act.put, List.setIfInBounds_toArray, List.set_cons_zero, List.set_cons_succ])
        refine takeE 2 (v := ?_) rfl (by kernel_rfl) (by kernel_rfl) (by kernel_rfl) (by kernel_rfl) (fun _ _ _ h => h) (by kernel_rfl) ?_ (by assumption) ?_; rotate_left; (focus (intro w hSw; (try dsimp only at hSw); (try go_split_ands); go_simp <;> with_reducible rfl)); (try simp only [Act.put, List.setIfInBounds_toArray, List.set_cons_zero, List.set_cons_succ])
        refine takeE 3 (v := ?_) rfl (by kernel_rfl) (by kernel_rfl) (by kernel_rfl) (by kernel_rfl) (fun _ _ _ h => h) (by kernel_rfl) ?_ (by assumption) ?_; rotate_left; (focus (intro w hSw; (try dsimp only at hSw); (try go_split_ands); go_simp <;> with_reducible rfl)); (try simp only [Act.put, List.setIfInBounds_toArray, List.set_cons_zero, List.set_cons_succ])
        refine takeE 4 (v := ?_) rfl (by kernel_rfl) (by kernel_rfl) (by kernel_rfl) (by kernel_rfl) (fun _ _ _ h => h) (by kernel_rfl) ?_ (by assumption) ?_; rotate_left; (focus (intro w hSw; (try dsimp only at hSw); (try go_split_ands); go_simp <;> with_reducible rfl)); (try simp only [Act.put, List.setIfInBounds_toArray, List.set_cons_zero, List.set_cons_succ])
        refine takeE 5 (v := ?_) rfl (by kernel_rfl) (by kernel_rfl) (by kernel_rfl) (by kernel_rfl) (fun _ _ _ h => h) (by kernel_rfl) ?_ (by assumption) ?_; rotate_left; (focus (intro w hSw; (try dsimp only at hSw); (try go_split_ands); go_simp <;> with_reducible rfl)); (try simp only [Act.put, List.setIfInBounds_toArray, List.set_cons_zero, List.set_cons_succ])
        refine takeE 6 (v := ?_) rfl (by kernel_rfl) (by kernel_rfl) (by kernel_rfl) (by kernel_rfl) (fun _ _ _ h => h) (by kernel_rfl) ?_ (by assumption) ?_; rotate_left; (focus (intro w hSw; (try dsimp only at hSw); (try go_split_ands); go_simp <;> with_reducible rfl)); (try simp only [Act.put, List.setIfInBounds_toArray, List.set_cons_zero, List.set_cons_succ])
        refine takeE 7 (v := ?_) rfl (by kernel_rfl) (by kernel_rfl) (by kernel_rfl) (by kernel_rfl) (fun _ _ _ h => h) (by kernel_rfl) ?_ (by assumption) ?_; rotate_left; (focus (intro w hSw; (try dsimp only at hSw); (try go_split_ands); go_simp <;> with_reducible rfl)); (try simp only [Act.put, List.setIfInBounds_toArray, List.set_cons_zero, List.set_cons_succ])
        refine takeE 8 (v := ?_) rfl (by kernel_rfl) (by kernel_rfl) (by kernel_rfl) (by kernel_rfl) (fun _ _ _ h => h) (by kernel_rfl) ?_ (by assumption) ?_; rotate_left; (focus (intro w hSw; (try dsimp only at hSw); (try go_split_ands); go_simp <;> with_reducible rfl)); (try simp only [Act.put, List.setIfInBounds_toArray, List.set_cons_zero, List.set_cons_succ])
        refine lastE 9 rfl (by kernel_rfl) (by kernel_rfl) (by kernel_rfl) (by kernel_rfl) (fun K hK => ?_); (try go_simp)
        refine hK.out _ _ ?_; clear hK K; (try simp only [Act.put, List.setIfInBounds_toArray, List.set_cons_zero, List.set_cons_succ])
        go_wp2_with fail
        go_roundw
        case rel =>
          refine ⟨k + 1, by omega, by go_num, Lib.hid ?_, ?_⟩
          · rw [hsU2.out, ← HV.out]
            have := HD2.out.put (k := pn) (by show pn < (setU kp ws xs k).length; rw [setU_length, ← Hn2.out]; exact p1') HX2.out.data HX.out.2 HN.out
            have h9 := this.ext ((Ext.refl _).drew)
            simpa using h9
          · rw [← HV.out]; exact (e7.setCell (p := ⟨g, pn, none⟩) hlg _).drew
        case measure => simp [intOf]; omega
    · obtain rfl : k = m := by omega
      have f1' : wr.frozen? ⟨B, 1, none⟩ = false := HD.out.f1
      have c1' : wr.cell? ⟨B, 1, none⟩ = some (.slice vA k vc) := HD.out.c1
      have hBl := HD.out.lt
      go_wp2_with fail
      go_end0
      exact ⟨rfl, HD.out.clear, e1.setCell (p := ⟨B, 1, none⟩) (by show lo ≤ B; omega) _⟩
end Go.Proofs.YtfongpdeflfioaaGreat
/- device.fault; a write put behind those that wait; plain laws of devices. -/
namespace Go.Proofs.YtfongpdeflfioaaGreat
open Go.RowKit
set_option linter.unusedSimpArgs false
set_option linter.unusedVariables false

structure Ac where
  flush : Bool
  pos : Int
  data : Oct
def Ac.cells (x : Ac) : List Value := [.bool x.flush, .int .i64 x.pos, x.data.val]
structure Ac.At (w : World) (lo hi : Nat) (x : Ac) : Prop where
  p0 : -9223372036854775808 ≤ x.pos
  p1 : x.pos ≤ 9223372036854775807
  data : Oct.At w lo hi x.data
def faultE (n : Nat) (a : Ac) : Int := if a.flush = true then 0 else if a.pos < 0 ∨ (n : Int) ≤ a.pos then 4 else if a.data.n = 64 then 0 else 5
set_option maxHeartbeats 1000000 in
theorem fault_any (d : Dev) (a : Ac) (w : World) (hn : d.secs.n ≤ 9223372036854775807) (p0 : -9223372036854775808 ≤ a.pos) (p1 : a.pos ≤ 9223372036854775807) (hd : a.data.n ≤ 9223372036854775807) :
    Calls Tryz.prog 61 #[.agg d.cells.toArray, .agg a.cells.toArray] w fun e w' => e = .returned (.int .i64 (faultE d.secs.n a)) ∧ Ext w w' := by
  have H := Lib.hid (fun w1 => odd_any a.data w1 hd)
  have ho : Hid (oddO a.data = !decide (a.data.n = 64)) := Lib.hid (by rw [oddO, Bool.eq_iff_iff]; simp)
  have hv := Lib.hid (show faultE d.secs.n a = if a.flush = true then 0 else if a.pos < 0 ∨ (d.secs.n : Int) ≤ a.pos then 4 else if a.data.n = 64 then 0 else 5 from rfl)
  generalize faultE d.secs.n a = v at *
  generalize oddO a.data = od at *
  obtain ⟨⟨A, n, c, xs⟩, ⟨B, m, k, ys⟩⟩ := d
  obtain ⟨fl, pos, ⟨aA, an, ac, ax⟩⟩ := a
  simp only [Dev.cells, Ac.cells, Sl.val] at *
  have hcase : fl = true ∨ (fl = false ∧ pos < 0) ∨ (fl = false ∧ 0 ≤ pos ∧ (n : Int) ≤ pos) ∨ (fl = false ∧ 0 ≤ pos ∧ pos < (n : Int)) := by cases fl <;> simp <;> omega
  rcases hcase with q0 | ⟨q0, q1⟩ | ⟨q0, q1, q2⟩ | ⟨q0, q1, q2⟩
  all_goals
    subst q0
    go_enter Tryz.func61, Tryz.ntmps61
    go_wp2_with (go_at_call 84; refine (H.out _).mono ?_; rintro e w2 ⟨rfl, e2⟩)
    all_goals (go_ret; refine ⟨retI ?_, by (repeat (first | exact Below.refl _ _ | exact Ext.refl _ | assumption | refine Below.drew ?_ | refine below_drewN ?_ _ | refine below_alloc ?_ (by first | exact Nat.le_refl _ | assumption | (simp; done) | omega | (simp; omega)) _ | refine below_ext ?_ (by assumption) (by first | exact Nat.le_refl _ | assumption | (simp; done) | omega | (simp; omega)) | refine Ext.drew ?_ | refine Ext.drewN ?_ _ | refine Ext.alloc ?_ _ | refine Ext.setCell ?_ (by first | assumption | (simp; done) | (simp; omega)) _ | refine Below.setCell ?_ (by first | assumption | (simp; done) | (simp; omega)) _ | refine Ext.trans ?_ (by assumption)))⟩; rw [hv.out]; try (first | (simp [*]; done) | (simp [*]; omega) | (rw [if_neg (by simp), if_neg (by omega)]; have h9 := ho.out; subst h9; simp_all; done)))

section
variable {w w' : World} {lo g B : Nat} {d : Dev}
/-- a write more -/
theorem Dev.OwnB.push (h : Dev.OwnB w lo g B d) {pos : Int} (hp0 : -9223372036854775808 ≤ pos) (hp1 : pos ≤ 9223372036854775807) {s : Oct} (hs : Oct.At w (g + 1) w.heap.size s) (ha : Ap d.waits.val s) (hn : Nb B s) {A4 : Option Addr} {c4 : Nat}
    (o4 : w'.ownsRow (g + 1) 114 2 (.slice A4 (d.waits.n + 1) c4) (d.waits.n + 1) (d.waits.xs.flatMap Wrt.cells ++ [.int .i64 pos, s.val])) (hg : w.grownBy w' d.waits.val.ownBlock)
    (hob : (Value.slice A4 (d.waits.n + 1) c4).ownBlock = d.waits.val.ownBlock ∨ (Value.slice A4 (d.waits.n + 1) c4).ownBlock = some w.heap.size) :
    Dev.OwnB (w'.setCell ⟨B, 1, none⟩ (.slice A4 (d.waits.n + 1) c4)) lo g B ⟨d.secs, ⟨A4, d.waits.n + 1, c4, d.waits.xs ++ [⟨pos, s⟩]⟩⟩ := by
  have hsz : (w'.setCell ⟨B, 1, none⟩ (.slice A4 (d.waits.n + 1) c4)).heap.size = w'.heap.size := by simp
  have hgB := h.gB
  have hlt := h.lt
  have hbB := hg.block B hlt (fun e => h.own e.symm)
  have hbv : ∀ b, d.waits.val.ownBlock = some b → g + 1 ≤ b ∧ b < w.heap.size := fun b hb => h.at_.own.lt b hb
  have ap4 : ∀ x : Oct, Oct.At w (g + 1) w.heap.size x → Ap d.waits.val x → Ap (.slice A4 (d.waits.n + 1) c4) x := fun x hx hap hne b o hA hb => by
    rcases hob with h' | h'
    · exact hap hne b o hA (by rw [← h']; exact hb)
    · rw [h'] at hb
      injection hb with hb
      exact Ap.of_lt hx (v := .slice A4 (d.waits.n + 1) c4) (fun b' hb' => by rw [h'] at hb'; injection hb' with hb'; omega) hne b o hA (by rw [h', hb])
  have keep : ∀ x : Oct, Oct.At w (g + 1) w.heap.size x → Ap d.waits.val x → Nb B x → Oct.At (w'.setCell ⟨B, 1, none⟩ (.slice A4 (d.waits.n + 1) c4)) (g + 1) (w'.setCell ⟨B, 1, none⟩ (.slice A4 (d.waits.n + 1) c4)).heap.size x := fun x hx hap hnb => by
    rw [hsz]
    exact Oct.At.set_ne (Oct.At.grown hx hg hap) hnb _
  have hown4 : (Value.slice A4 (d.waits.n + 1) c4).ownBlock ≠ some B := fun e => by
    rcases hob with h' | h'
    · exact h.own (by rw [← h']; exact e)
    · rw [h'] at e; injection e with e; omega
  refine ⟨⟨h.at_.lo_g, by rw [hsz]; exact Nat.lt_of_lt_of_le h.at_.g_lt hg.size, h.at_.secA, h.at_.secn, h.at_.secc, h.at_.secm, ?_, fun x hx => ⟨keep x (h.at_.secs x hx).1 (h.at_.secs x hx).2 (h.secs x hx), ap4 x (h.at_.secs x hx).1 (h.at_.secs x hx).2⟩,
      by show d.waits.n + 1 = _; rw [List.length_append, h.at_.wn]; rfl, ?_, fun x hx => ?_⟩, h.gB, by rw [hsz]; exact Nat.lt_of_lt_of_le h.lt hg.size,
    (World.cell?_setCell_other _ _ _ _ (fun e => by injection e with _ e2; omega)).trans ((World.cell?_of_block hbB).trans h.c0), World.cell?_setCell_same _ _ _ ((World.cell?_of_block hbB).trans h.c1),
    (World.frozen?_setCell _ _ _ _).trans ((World.frozen?_of_block hbB).trans h.f0), (World.frozen?_setCell _ _ _ _).trans ((World.frozen?_of_block hbB).trans h.f1), h.secs, hown4, fun x hx => ?_⟩
  · rw [hsz]
    exact ((h.at_.row.grown_ne hg (Nat.le_refl _) (fun _ b o hA hb => by
      injection hA with hA
      injection hA with hA
      have := hbv _ hb
      omega)).else_ (p := ⟨B, 1, none⟩) (by show B ≠ g; omega) _).more (Nat.le_refl _) hg.size
  · have := own_set_ne o4 (p := ⟨B, 1, none⟩) hown4 (.slice A4 (d.waits.n + 1) c4)
    show World.ownsRow _ _ _ _ (.slice A4 (d.waits.n + 1) c4) _ ((d.waits.xs ++ [(⟨pos, s⟩ : Wrt)]).flatMap Wrt.cells)
    rw [List.flatMap_append]
    simpa [Wrt.cells] using this
  · rcases List.mem_append.1 hx with h' | h'
    · exact ⟨⟨(h.at_.waits x h').1.p0, (h.at_.waits x h').1.p1, keep _ (h.at_.waits x h').1.data (h.at_.waits x h').2 (h.waits x h')⟩, ap4 _ (h.at_.waits x h').1.data (h.at_.waits x h').2⟩
    · simp only [List.mem_singleton] at h'
      subst h'
      exact ⟨⟨hp0, hp1, keep s hs ha hn⟩, ap4 s hs ha⟩
  · rcases List.mem_append.1 hx with h' | h'
    · exact h.waits x h'
    · simp only [List.mem_singleton] at h'
      subst h'
      exact hn
end
end Go.Proofs.YtfongpdeflfioaaGreat
/- device.Crash. -/
namespace Go.Proofs.YtfongpdeflfioaaGreat
open Go.RowKit
set_option linter.unusedSimpArgs false
set_option linter.unusedVariables false

theorem chk_ok {d : Dev} (hl : d.secs.n = d.secs.xs.length) (h : chkE d = 0) : 2 ≤ d.secs.n ∧ d.secs.n ≤ 8192 ∧ (∀ s ∈ d.secs.xs, s.n = 64) ∧ ∀ x ∈ d.waits.xs, 0 ≤ x.pos ∧ x.pos < (d.secs.n : Int) ∧ x.data.n = 64 := by
  unfold chkE at h
  split at h
  · cases h
  · rename_i h1
    split at h
    · cases h
    · rename_i h2
      refine ⟨by omega, by omega, fun s hs => ?_, fun x hx => ?_⟩
      · rcases Decidable.em (s.n = 64) with h' | h'
        · exact h'
        · exact absurd (Or.inr (Or.inr (List.any_eq_true.2 ⟨s, hs, by simpa [oddO] using h'⟩))) h1
      · rcases Decidable.em (0 ≤ x.pos ∧ x.pos < (d.secs.n : Int) ∧ x.data.n = 64) with h' | h'
        · exact h'
        · refine absurd (List.any_eq_true.2 ⟨x, hx, ?_⟩) h2
          simp only [badW, oddO, Bool.or_eq_true, decide_eq_true_eq, bne_iff_ne]
          omega
/-- the sectors behind the first k writes, those that are kept -/
def setV (kp : Nat → Bool) (ws : List (Int × List UInt8)) (ss : List (List UInt8)) : Nat → List (List UInt8)
  | 0 => ss
  | k + 1 => match ws[k]? with
    | some x => if kp k then (setV kp ws ss k).set x.1.toNat x.2 else setV kp ws ss k
    | none => setV kp ws ss k
theorem setU_abs (kp : Nat → Bool) (ws : List Wrt) (ss : List Oct) : ∀ k, (setU kp ws ss k).map (·.xs) = setV kp (ws.map Wrt.abs) (ss.map (·.xs)) k
  | 0 => rfl
  | k + 1 => by
    unfold setU setV
    rw [List.getElem?_map]
    cases ws[k]? with
    | none => exact setU_abs kp ws ss k
    | some x =>
      simp only [Option.map_some]
      cases kp k
      · simpa using setU_abs kp ws ss k
      · simp only [if_true, List.map_set, setU_abs kp ws ss k]
        rfl
theorem Nb.of_lt {w : World} {lo hi : Nat} {s : Oct} (h : Oct.At w lo hi s) {B : Nat} (hB : hi ≤ B ∨ B < lo) : Nb B s := fun hn b o hA e => by
  subst e
  exact Ap.of_lt h (v := .slice (some ⟨b, 0, none⟩) 0 0) (fun b' hb' => (show b = b' by simpa [Value.ownBlock] using hb') ▸ hB) hn b o hA rfl
/-- a device of the call's own, laid into a variable -/
theorem Dev.OwnAt.box {w w' : World} {lo g : Nat} {d : Dev} (h : Dev.OwnAt w lo g d) (hw : w.alloc (.cells #[d.secs.val, d.waits.val] 25) = w') : Dev.OwnB w' lo g w.heap.size d := by
  obtain ⟨e, z, G⟩ := box_cells hw
  have hf : ∀ j, j < 2 → w'.frozen? ⟨w.heap.size, j, none⟩ = false := fun j _ => by
    subst hw
    have := heap_alloc_new w (.cells #[d.secs.val, d.waits.val] 25)
    unfold World.frozen?
    rw [this]
    simp
  refine ⟨h.ext e, h.g_lt, by omega, G 0 _ rfl _ (Ext.refl _), G 1 _ rfl _ (Ext.refl _), hf 0 (by omega), hf 1 (by omega), fun s hs => Nb.of_lt (h.secs s hs).1 (.inl (Nat.le_refl _)), fun e' => ?_, fun x hx => Nb.of_lt (h.waits x hx).1.data (.inl (Nat.le_refl _))⟩
  have := h.own.lt _ e'
  omega
def boolc (b : Bool) : List Value := [.bool b]
def keepB (ks : List Bool) (i : Nat) : Bool := ks.getD i false
theorem keep1_any (w : World) (A : Option Addr) (n c : Nat) (ks : List Bool) (b : Nat) (hn : n = ks.length) (hm : n ≤ 9223372036854775807) (hr : Rd w 0 w.heap.size A (ks.flatMap boolc)) (hb : w.cell? ⟨b, 0, none⟩ = some (.slice A n c)) (i : Nat) (hi : i ≤ 9223372036854775807) :
    Calls Tryz.prog 65 #[.int .i64 (i : Int), .pointer (some ⟨b, 0, none⟩)] w fun e w' => e = .returned (.bool (keepB ks i)) ∧ Ext w w' := by
  by_cases hlt : i < n
  · have hl : i < ks.length := by omega
    obtain ⟨b1, o1, rfl, _, hb1, G0⟩ := rd_flat (size := 1) (fun _ => rfl) (by omega) hr hl
    have hk := Lib.hid (show keepB ks i = ks[i] by simp [keepB, hl])
    have g0 := G0 0 _ rfl
    simp only [Nat.add_zero, Nat.mul_one] at g0
    clear G0
    generalize ks[i] = v at *
    have q0 : (0 : Int) ≤ i := by omega
    have q1 : (i : Int) < n := by omega
    clear hn
    go_enter Tryz.func65, Tryz.ntmps65
    go_wp2_with fail
    go_ret
    exact ⟨retB (by rw [hk.out]; try simp), Ext.refl _⟩
  · have hk := Lib.hid (show keepB ks i = false by simp [keepB, List.getElem?_eq_none (show ks.length ≤ i by omega)])
    have q1 : (n : Int) ≤ i := by omega
    clear hn
    go_enter Tryz.func65, Tryz.ntmps65
    go_wp2_with fail
    go_ret
    exact ⟨retB (by rw [hk.out]), Ext.refl _⟩
theorem call_keep1 : ∀ args w, (callFunc 65 args).run Tryz.prog w = .ok (.enter 65 args) w := callF Tryz.func65 (by kernel_rfl) rfl
set_option maxHeartbeats 1000000 in
theorem crash_no (d : Dev) (w : World) (h : Dev.At w 0 w.heap.size d) (hc : chkE d ≠ 0) (A : Option Addr) (n c : Nat) :
    Calls Tryz.prog 23 #[.agg d.cells.toArray, .slice A n c] w fun e w' => e = .returned (.tuple #[.agg #[.slice none 0 0, .slice none 0 0], .int .i64 (chkE d)]) ∧ Ext w w' := by
  have HC := Lib.hid (fun w1 (e : Ext w w1) => chk_any d w1 (h.on e (Nat.le_refl _)))
  have q0 : (chkE d != 0) = true := by simpa using hc
  generalize chkE d = ce at *
  obtain ⟨⟨sA, sn, sc, xs⟩, ⟨B, m, k9, ys⟩⟩ := d
  simp only [Dev.cells, Sl.val] at *
  clear h hc
  go_enter Tryz.func23, Tryz.ntmps23
  go_wp2_with (go_at_call 39; refine (HC.out _ (by (repeat (first | exact Below.refl _ _ | exact Ext.refl _ | assumption | refine Below.drew ?_ | refine below_drewN ?_ _ | refine below_alloc ?_ (by first | exact Nat.le_refl _ | assumption | (simp; done) | omega | (simp; omega)) _ | refine below_ext ?_ (by assumption) (by first | exact Nat.le_refl _ | assumption | (simp; done) | omega | (simp; omega)) | refine Ext.drew ?_ | refine Ext.drewN ?_ _ | refine Ext.alloc ?_ _ | refine Ext.setCell ?_ (by first | assumption | (simp; done) | (simp; omega)) _ | refine Below.setCell ?_ (by first | assumption | (simp; done) | (simp; omega)) _ | refine Ext.trans ?_ (by assumption))))).mono ?_; rintro e w2 ⟨rfl, e2⟩; obtain ⟨p1, p2⟩ := bcell e2; have z2 : w.heap.size + 2 < w2.heap.size := (by have := e2.size; simp at this; omega); have c0 : w2.cell? ⟨w.heap.size + 2, 0, none⟩ = some (.slice none 0 0) := (by rw [p1 _ _ (by first | (simp; done) | (simp; omega))]; go_simp); have c1 : w2.cell? ⟨w.heap.size + 2, 1, none⟩ = some (.slice none 0 0) := (by rw [p1 _ _ (by first | (simp; done) | (simp; omega))]; go_simp); have f0 : w2.frozen? ⟨w.heap.size + 2, 0, none⟩ = false := (by rw [p2 _ _ (by first | (simp; done) | (simp; omega))]; go_simp); have f1 : w2.frozen? ⟨w.heap.size + 2, 1, none⟩ = false := (by rw [p2 _ _ (by first | (simp; done) | (simp; omega))]; go_simp))
  refine bodyPost_ret (v := .tuple #[.agg #[.slice none 0 0, .slice none 0 0], .int .i64 ce]) (by simp [results, Tryz.results23, go_sem, *]) rfl ⟨rfl, by (repeat (first | exact Below.refl _ _ | exact Ext.refl _ | assumption | refine Below.drew ?_ | refine below_drewN ?_ _ | refine below_alloc ?_ (by first | exact Nat.le_refl _ | assumption | (simp; done) | omega | (simp; omega)) _ | refine below_ext ?_ (by assumption) (by first | exact Nat.le_refl _ | assumption | (simp; done) | omega | (simp; omega)) | refine Ext.drew ?_ | refine Ext.drewN ?_ _ | refine Ext.alloc ?_ _ | refine Ext.setCell ?_ (by first | assumption | (simp; done) | (simp; omega)) _ | refine Below.setCell ?_ (by first | assumption | (simp; done) | (simp; omega)) _ | refine Ext.trans ?_ (by assumption)))⟩
theorem Dev.At.set_low {w : World} {lo hi : Nat} {d : Dev} (h : Dev.At w lo hi d) {p : Addr} (hp : p.block < lo) (u : Value) : Dev.At (w.setCell p u) lo hi d := h.imp fun _ _ hr => hr.setCell_low hp u
/-- a keep list that came in -/
structure Ks (w : World) (A : Option Addr) (n c : Nat) (ks : List Bool) : Prop where
  len : n = ks.length
  le : n ≤ 9223372036854775807
  rd : Rd w 0 w.heap.size A (ks.flatMap boolc)
set_option maxHeartbeats 2000000 in
theorem crash_yes (d : Dev) (w : World) (h : Dev.At w 0 w.heap.size d) (hc : chkE d = 0) (h3 : d.waits.n * 32 ≤ 140737488355328) (A : Option Addr) (n c : Nat) (ks : List Bool) (hk : Ks w A n c ks) :
    Calls Tryz.prog 23 #[.agg d.cells.toArray, .slice A n c] w fun e w' => (∃ d' : Dev, e = .returned (.tuple #[.agg d'.cells.toArray, .int .i64 0]) ∧ d'.secv = setV (keepB ks) d.wv d.secv d.waits.n ∧ d'.waits = ⟨none, 0, 0, []⟩ ∧ d'.secs.n = d.secs.n ∧ Dev.At w' w.heap.size w'.heap.size d') ∧ Ext w w' := by
  have HC := Lib.hid (fun w1 (e : Ext w w1) => chk_any d w1 (h.on e (Nat.le_refl _)))
  rw [hc] at HC
  obtain ⟨ok0, ok1, ok2, ok3⟩ := chk_ok h.secs.len hc
  have HCp := Lib.hid (fun w1 (e : Ext w w1) => copied_any d w1 (h.on e (Nat.le_refl _)) ok1 (fun s hs => by rw [ok2 s hs]; exact Nat.le_refl _) h3 (fun x hx => by rw [(ok3 x hx).2.2]; exact Nat.le_refl _))
  have OK3 := Lib.hid ok3
  have HK := Lib.hid hk
  have HG := Lib.hid (show d.waits.n = d.wv.length by rw [Dev.wv, List.length_map]; exact h.waits.len)
  clear ok0 ok1 ok2 ok3 hc h3 h hk
  have hdw := Lib.hid (show d.wv = d.waits.xs.map Wrt.abs from rfl)
  generalize hdn : d.waits.n = dn at *
  have Hdn := Lib.hid hdn
  clear hdn
  generalize hcv : d.cells.toArray = cv at *
  have Hcv := Lib.hid hcv
  obtain ⟨v0, v1, hv⟩ : ∃ v0 v1, cv = #[v0, v1] := ⟨_, _, hcv.symm⟩
  clear hcv
  have Hv := Lib.hid hv
  subst hv
  obtain ⟨sv0, sv1⟩ : (∃ A n c, v0 = .slice A n c) ∧ ∃ A n c, v1 = .slice A n c := by
    have := Hcv.out
    simp only [Dev.cells, Sl.val, List.toArray_inj] at this
    simp at this
    exact ⟨⟨_, _, _, this.1.symm⟩, ⟨_, _, _, this.2.symm⟩⟩
  obtain ⟨A0, n0, c0, rfl⟩ := sv0
  obtain ⟨A1, n1, c1, rfl⟩ := sv1
  go_enter Tryz.func23, Tryz.ntmps23
  go_wp2_with (go_at_call 39; refine (HC.out _ (by (repeat (first | exact Below.refl _ _ | exact Ext.refl _ | assumption | refine Below.drew ?_ | refine below_drewN ?_ _ | refine below_alloc ?_ (by first | exact Nat.le_refl _ | assumption | (simp; done) | omega | (simp; omega)) _ | refine below_ext ?_ (by assumption) (by first | exact Nat.le_refl _ | assumption | (simp; done) | omega | (simp; omega)) | refine Ext.drew ?_ | refine Ext.drewN ?_ _ | refine Ext.alloc ?_ _ | refine Ext.setCell ?_ (by first | assumption | (simp; done) | (simp; omega)) _ | refine Below.setCell ?_ (by first | assumption | (simp; done) | (simp; omega)) _ | refine Ext.trans ?_ (by assumption))))).mono ?_; rintro e w2 ⟨rfl, e2⟩; obtain ⟨p1, p2⟩ := bcell e2; have z2 : w.heap.size + 2 < w2.heap.size := (by have := e2.size; simp at this; omega))
  have k0 : w2.cell? ⟨w.heap.size + 1, 0, none⟩ = some (.slice A n c) := by rw [p1 _ _ (by first | (simp; done) | (simp; omega))]; go_simp
  have r0 : w2.cell? ⟨w.heap.size + 2, 0, none⟩ = some (.slice none 0 0) := by rw [p1 _ _ (by first | (simp; done) | (simp; omega))]; go_simp
  have r1 : w2.cell? ⟨w.heap.size + 2, 1, none⟩ = some (.slice none 0 0) := by rw [p1 _ _ (by first | (simp; done) | (simp; omega))]; go_simp
  have f0 : w2.frozen? ⟨w.heap.size + 2, 0, none⟩ = false := by rw [p2 _ _ (by first | (simp; done) | (simp; omega))]; go_simp
  have f1 : w2.frozen? ⟨w.heap.size + 2, 1, none⟩ = false := by rw [p2 _ _ (by first | (simp; done) | (simp; omega))]; go_simp
  have x2 : Ext w w2 := by (repeat (first | exact Below.refl _ _ | exact Ext.refl _ | assumption | refine Below.drew ?_ | refine below_drewN ?_ _ | refine below_alloc ?_ (by first | exact Nat.le_refl _ | assumption | (simp; done) | omega | (simp; omega)) _ | refine below_ext ?_ (by assumption) (by first | exact Nat.le_refl _ | assumption | (simp; done) | omega | (simp; omega)) | refine Ext.drew ?_ | refine Ext.drewN ?_ _ | refine Ext.alloc ?_ _ | refine Ext.setCell ?_ (by first | assumption | (simp; done) | (simp; omega)) _ | refine Below.setCell ?_ (by first | assumption | (simp; done) | (simp; omega)) _ | refine Ext.trans ?_ (by assumption)))
  clear p1 p2
  refine (HCp.out _ x2).mono ?_
  rintro e w3 ⟨⟨d', g, rfl, hs, hw, hn', ho⟩, e3⟩
  obtain ⟨⟨A', n', c', xs'⟩, ⟨B', m', k', ys'⟩⟩ := d'
  have HO := Lib.hid ho
  have HS := Lib.hid hs
  have HW := Lib.hid hw
  have HN := Lib.hid hn'
  clear ho hs hw hn'
  have x3 : Ext w w3 := x2.trans e3
  have z3 : w.heap.size + 2 < w3.heap.size := Nat.lt_of_lt_of_le z2 e3.size
  simp only [Dev.cells, Sl.val]
  go_wp2_with fail
  generalize hw4 : World.alloc w3 _ = w4
  have HB := Lib.hid (HO.out.box (w' := w4) (by simpa [Sl.val] using hw4))
  have e4 : Ext w3 w4 := by rw [← hw4]; exact (Ext.refl _).alloc _
  clear hw4
  have x4 : Ext w w4 := x3.trans e4
  have hlo : w.heap.size + 2 < w2.heap.size := z2
  have hm : m' = d.wv.length := by
    rw [← HW.out, Dev.wv, List.length_map]
    exact HO.out.wn
  have hpos : ∀ x ∈ ys', 0 ≤ x.pos ∧ x.pos < (n' : Int) := fun x hx => by
    have h1 : x.abs ∈ d.waits.xs.map Wrt.abs := by
      rw [← hdw.out, ← HW.out]
      exact List.mem_map_of_mem (f := Wrt.abs) hx
    obtain ⟨y, hy, hya⟩ := List.mem_map.1 h1
    have h2 := OK3.out y hy
    have h3 : y.pos = x.pos := congrArg Prod.fst hya
    have h4 : n' = d.secs.n := HN.out
    rw [h4, ← h3]
    exact ⟨h2.1, h2.2.1⟩
  have HSt := Lib.hid (settle_any _ w4 w2.heap.size g w3.heap.size HB.out hpos (keepB ks) (.func (.func 65) #[] #[.pointer (some ⟨w.heap.size + 1, 0, none⟩)]) 65 #[.pointer (some ⟨w.heap.size + 1, 0, none⟩)] rfl call_keep1 (fun i hi w5 hb => by
    have hx : Ext w w5 := Below.trans x4 (Below.mono hb x2.size)
    refine keep1_any w5 A n c ks (w.heap.size + 1) HK.out.len HK.out.le (Rd.at HK.out.rd hx (Nat.le_refl _)) ?_ i ?_
    · rw [Below.cell hb (show w.heap.size + 1 < w2.heap.size by omega), Below.cell (e3.trans e4) (show w.heap.size + 1 < w2.heap.size by omega)]
      exact k0
    · obtain ⟨_, a2, a3⟩ := own_le HO.out.own rfl
      have a4 : m' ≤ maxLen := Nat.le_trans a2 a3
      have a5 : i < m' := hi
      unfold maxLen at a4
      omega))
  refine HSt.out.mono ?_
  rintro e w5 ⟨rfl, ho5, hb5⟩
  have HO5 := Lib.hid ho5
  have u0 := ho5.c0
  have u1 := ho5.c1
  have ub := ho5.lt
  simp only [Sl.val] at u0 u1
  have t0 : w5.cell? ⟨w.heap.size + 2, 0, none⟩ = some (.slice none 0 0) := by rw [Below.cell hb5 hlo, Below.cell (e3.trans e4) hlo]; exact r0
  have t1 : w5.cell? ⟨w.heap.size + 2, 1, none⟩ = some (.slice none 0 0) := by rw [Below.cell hb5 hlo, Below.cell (e3.trans e4) hlo]; exact r1
  have t2 : w5.frozen? ⟨w.heap.size + 2, 0, none⟩ = false := by rw [Below.frozen hb5 hlo, Below.frozen (e3.trans e4) hlo]; exact f0
  have t3 : w5.frozen? ⟨w.heap.size + 2, 1, none⟩ = false := by rw [Below.frozen hb5 hlo, Below.frozen (e3.trans e4) hlo]; exact f1
  have x5 : Ext w w5 := Below.trans x4 (Below.mono hb5 x2.size)
  clear ho5 r0 r1 f0 f1 k0
  go_wp2_with fail
  refine bodyPost_ret (v := .tuple #[.agg #[.slice A' n' c', .slice none 0 0], .int .i64 0]) (by simp [results, Tryz.results23, go_sem, *]) rfl ⟨⟨⟨⟨A', n', c', setU (keepB ks) ys' xs' m'⟩, ⟨none, 0, 0, []⟩⟩, rfl, ?_, rfl, HN.out, ?_⟩, by (repeat (first | exact Below.refl _ _ | exact Ext.refl _ | assumption | refine Below.drew ?_ | refine below_drewN ?_ _ | refine below_alloc ?_ (by first | exact Nat.le_refl _ | assumption | (simp; done) | omega | (simp; omega)) _ | refine below_ext ?_ (by assumption) (by first | exact Nat.le_refl _ | assumption | (simp; done) | omega | (simp; omega)) | refine Ext.drew ?_ | refine Ext.drewN ?_ _ | refine Ext.alloc ?_ _ | refine Ext.setCell ?_ (by first | assumption | (simp; done) | (simp; omega)) _ | refine Below.setCell ?_ (by first | assumption | (simp; done) | (simp; omega)) _ | refine Ext.trans ?_ (by assumption)))⟩
  · show (setU (keepB ks) ys' xs' m').map (·.xs) = _
    rw [setU_abs, hm, HG.out, show ys'.map Wrt.abs = d.wv from HW.out, show xs'.map (·.xs) = d.secv from HS.out]
  · have := ((HO5.out.at_.at_).set_low (p := ⟨w.heap.size + 2, 0, none⟩) hlo (.slice A' n' c')).set_low (p := ⟨w.heap.size + 2, 1, none⟩) hlo (.slice none 0 0)
    have h9 := this.low x2.size
    simpa using h9
end Go.Proofs.YtfongpdeflfioaaGreat
