/- The texts Settle, Fault, Wp in one file. -/
import Derived.Test.YtfongpdeflfioaaGreatK17
import Derived.Test.YtfongpdeflfioaaGreatK6
import Derived.Test.YtfongpdeflfioaaGreatK16
/- device.settle. -/
namespace Go.Proofs.YtfongpdeflfioaaGreat
open Go.RowKit
set_option linter.unusedSimpArgs false
set_option linter.unusedVariables false

/-- octets that do not stand in block B -/
def Nb (B : Nat) (s : Oct) : Prop := s.xs ≠ [] → ∀ b o, s.A = some ⟨b, o, none⟩ → b ≠ B
theorem Rd.set_ne {w : World} {lo hi : Nat} {A : Option Addr} {cs : List Value} (h : Rd w lo hi A cs) {p : Addr} (hr : cs ≠ [] → ∀ b o, A = some ⟨b, o, none⟩ → b ≠ p.block) (u : Value) : Rd (w.setCell p u) lo hi A cs := fun hn => by
  obtain ⟨b, o, e, h1, h2, h3⟩ := h hn
  exact ⟨b, o, e, h1, h2, fun j v hv => (World.cell?_setCell_other w p _ u (fun e' => hr hn b o e (by rw [e']))).trans (h3 j v hv)⟩
theorem Oct.At.set_ne {w : World} {lo hi : Nat} {s : Oct} (h : Oct.At w lo hi s) {p : Addr} (hr : Nb p.block s) (u : Value) : Oct.At (w.setCell p u) lo hi s :=
  ⟨h.len, h.le, h.cap, h.rd.set_ne (fun hn => hr (octs_ne hn)) u, h.all⟩
theorem own_set_ne {w : World} {base n : Nat} {v : Value} {e : TypeId} {size : Nat} {cs : List Value} (h : w.ownsRow base e size v n cs) {p : Addr} (hp : v.ownBlock ≠ some p.block) (u : Value) : (w.setCell p u).ownsRow base e size v n cs := by
  refine ⟨h.1, ?_⟩
  rcases h.2 with h' | ⟨g, cap, cur, h1, h2, h3, h4⟩
  · exact .inl h'
  · exact .inr ⟨g, cap, cur, h1, h2, (Below.heap_setCell _ _ _ _ (by rintro rfl; exact hp (by rw [h1]; rfl))).trans h3, h4⟩
/-- a device of the call's own whose variable is block B -/
structure Dev.OwnB (w : World) (lo g B : Nat) (d : Dev) : Prop where
  at_ : Dev.OwnAt w lo g d
  gB : g < B
  lt : B < w.heap.size
  c0 : w.cell? ⟨B, 0, none⟩ = some d.secs.val
  c1 : w.cell? ⟨B, 1, none⟩ = some d.waits.val
  f0 : w.frozen? ⟨B, 0, none⟩ = false
  f1 : w.frozen? ⟨B, 1, none⟩ = false
  secs : ∀ s ∈ d.secs.xs, Nb B s
  own : d.waits.val.ownBlock ≠ some B
  waits : ∀ x ∈ d.waits.xs, Nb B x.data
section
variable {w w' : World} {lo g B : Nat} {d : Dev}
theorem Dev.OwnB.ext (h : Dev.OwnB w lo g B d) (e : Ext w w') : Dev.OwnB w' lo g B d :=
  ⟨h.at_.ext e, h.gB, Nat.lt_of_lt_of_le h.lt e.size, (Below.cell e h.lt).trans h.c0, (Below.cell e h.lt).trans h.c1, (Below.frozen e h.lt).trans h.f0, (Below.frozen e h.lt).trans h.f1, h.secs, h.own, h.waits⟩
/-- one sector set -/
theorem Dev.OwnB.put (h : Dev.OwnB w lo g B d) {k : Nat} (hk : k < d.secs.xs.length) {s : Oct} (hs : Oct.At w (g + 1) w.heap.size s) (ha : Ap d.waits.val s) (hn : Nb B s) :
    Dev.OwnB (w.setCell ⟨g, k, none⟩ s.val) lo g B ⟨⟨d.secs.A, d.secs.n, d.secs.c, d.secs.xs.set k s⟩, d.waits⟩ := by
  have hsz : (w.setCell ⟨g, k, none⟩ s.val).heap.size = w.heap.size := by simp
  have hne : g ≠ B := by have := h.gB; omega
  have keep : ∀ x : Oct, Oct.At w (g + 1) w.heap.size x → Oct.At (w.setCell ⟨g, k, none⟩ s.val) (g + 1) (w.setCell ⟨g, k, none⟩ s.val).heap.size x := fun x hx => by rw [hsz]; exact Oct.At.set_low hx (Nat.lt_succ_self g) _
  refine ⟨⟨h.at_.lo_g, by rw [hsz]; exact h.at_.g_lt, h.at_.secA, by rw [List.length_set]; exact h.at_.secn, h.at_.secc, h.at_.secm, ?_, fun x hx => ?_, h.at_.wn, own_set h.at_.own (Nat.lt_succ_self g) _,
    fun x hx => ⟨⟨(h.at_.waits x hx).1.p0, (h.at_.waits x hx).1.p1, keep _ (h.at_.waits x hx).1.data⟩, (h.at_.waits x hx).2⟩⟩, h.gB, by rw [hsz]; exact h.lt,
    (World.cell?_setCell_other _ _ _ _ (fun e => hne (by injection e))).trans h.c0, (World.cell?_setCell_other _ _ _ _ (fun e => hne (by injection e))).trans h.c1, (World.frozen?_setCell _ _ _ _).trans h.f0, (World.frozen?_setCell _ _ _ _).trans h.f1, fun x hx => ?_, h.own, h.waits⟩
  · rw [hsz]
    have := h.at_.row.set (k := k) (by rw [List.length_map]; exact hk) s.val
    rw [Nat.zero_add] at this
    simpa [List.map_set] using this
  · rcases List.mem_or_eq_of_mem_set hx with h' | rfl
    · exact ⟨keep x (h.at_.secs x h').1, (h.at_.secs x h').2⟩
    · exact ⟨keep x hs, ha⟩
  · rcases List.mem_or_eq_of_mem_set hx with h' | rfl
    · exact h.secs x h'
    · exact hn
/-- no write waits any more -/
theorem Dev.OwnB.clear (h : Dev.OwnB w lo g B d) : Dev.OwnB (w.setCell ⟨B, 1, none⟩ (.slice none 0 0)) lo g B ⟨d.secs, ⟨none, 0, 0, []⟩⟩ := by
  have hsz : (w.setCell ⟨B, 1, none⟩ (.slice none 0 0)).heap.size = w.heap.size := by simp
  have hne : g ≠ B := by have := h.gB; omega
  exact ⟨⟨h.at_.lo_g, by rw [hsz]; exact h.at_.g_lt, h.at_.secA, h.at_.secn, h.at_.secc, h.at_.secm, by rw [hsz]; exact h.at_.row.else_ (p := ⟨B, 1, none⟩) hne.symm _,
    fun s hs => ⟨by rw [hsz]; exact Oct.At.set_ne (h.at_.secs s hs).1 (h.secs s hs) _, (fun _ b o _ e => by cases e)⟩, rfl, World.ownsRow_nil _ _ _ _, (fun x hx => by simp at hx)⟩,
    h.gB, by rw [hsz]; exact h.lt, (World.cell?_setCell_other _ _ _ _ (fun e => by injection e with _ e2; omega)).trans h.c0, World.cell?_setCell_same _ _ _ h.c1, (World.frozen?_setCell _ _ _ _).trans h.f0, (World.frozen?_setCell _ _ _ _).trans h.f1, h.secs, (fun e => by cases e), (fun x hx => by simp at hx)⟩
end
/-- the sectors behind the first k writes, those that are kept -/
def setU (kp : Nat → Bool) (ws : List Wrt) (ss : List Oct) : Nat → List Oct
  | 0 => ss
  | k + 1 => match ws[k]? with
    | some x => if kp k then (setU kp ws ss k).set x.pos.toNat x.data else setU kp ws ss k
    | none => setU kp ws ss k
theorem setU_length (kp : Nat → Bool) (ws : List Wrt) (ss : List Oct) : ∀ k, (setU kp ws ss k).length = ss.length
  | 0 => rfl
  | k + 1 => by
    unfold setU
    split
    · split
      · rw [List.length_set, setU_length]
      · exact setU_length kp ws ss k
    · exact setU_length kp ws ss k
set_option maxRecDepth 100000 in
set_option maxHeartbeats 2000000 in
theorem settle_any (d : Dev) (w : World) (lo g B : Nat) (h : Dev.OwnB w lo g B d) (hpos : ∀ x ∈ d.waits.xs, 0 ≤ x.pos ∧ x.pos < (d.secs.n : Int)) (kp : Nat → Bool) (F : Value) (f : FuncId) (caps : Array Value) (hf : F = .func (.func f) #[] caps)
    (hcf : ∀ args w, (callFunc f args).run Tryz.prog w = .ok (.enter f args) w) (hF : ∀ i, i < d.waits.n → ∀ w1, Below lo w w1 → Calls Tryz.prog f (#[.int .i64 (i : Int)] ++ caps) w1 fun e w' => e = .returned (.bool (kp i)) ∧ Ext w1 w') :
    Calls Tryz.prog 63 #[.pointer (some ⟨B, 0, none⟩), F] w fun e w' => e = .returned (.tuple #[]) ∧ Dev.OwnB w' lo g B ⟨⟨d.secs.A, d.secs.n, d.secs.c, setU kp d.waits.xs d.secs.xs d.waits.n⟩, ⟨none, 0, 0, []⟩⟩ ∧ Below lo w w' := by
  subst hf
  have HF := Lib.hid hF
  have HP := Lib.hid hpos
  have H := Lib.hid h
  have hlg := h.at_.lo_g
  have hB := h.gB
  have Hwn := Lib.hid h.at_.wn
  have c1 := h.c1
  clear hF hpos h
  obtain ⟨⟨A, n, c, xs⟩, ⟨vA, m, vc, ws⟩⟩ := d
  simp only [Sl.val] at c1
  have hm : m ≤ 9223372036854775807 := by
    obtain ⟨_, h2, h3⟩ := own_le H.out.at_.own rfl
    have h4 : m ≤ maxLen := Nat.le_trans h2 h3
    exact h4
  go_enter Tryz.func63, Tryz.ntmps63
  go_wp2_with fail
  go_loopw [11] (fun i wr => ∃ k : Nat, k ≤ m ∧ i = .int .i64 k ∧ Hid (Dev.OwnB wr lo g B ⟨⟨A, n, c, setU kp ws xs k⟩, ⟨vA, m, vc, ws⟩⟩) ∧ Below lo w wr) (fun i _ => m - (intOf i).toNat)
  case atStart => exact ⟨0, Nat.zero_le _, rfl, H, Below.refl _ _⟩
  case round =>
    obtain ⟨k, hk, rfl, HD, e1⟩ := hrel
    by_cases hlt : k < m
    · have hl : k < ws.length := by rw [← Hwn.out]; exact hlt
      obtain ⟨b1, o1, rfl, _, hb1, G0⟩ := rd_flat (size := 2) (fun _ => rfl) (by omega) HD.out.at_.at_.waits.rd hl
      have HX := Lib.hid (HD.out.at_.waits ws[k] (List.getElem_mem _))
      have HN := Lib.hid (HD.out.waits ws[k] (List.getElem_mem _))
      have HQ := Lib.hid (HP.out ws[k] (List.getElem_mem _))
      have HC := Lib.hid (fun w1 (e : Ext wr w1) => HF.out k hlt w1 (e1.trans (Below.mono e (by have := HD.out.lt; omega))))
      have hsU := Lib.hid (show setU kp ws xs (k + 1) = if kp k then (setU kp ws xs k).set ws[k].pos.toNat ws[k].data else setU kp ws xs k by rw [setU, List.getElem?_eq_getElem hl])
      have G1 : wr.cell? ⟨b1, o1 + k * 2, none⟩ = some (.int .i64 ws[k].pos) := by simpa using G0 0 _ rfl
      have G2 : wr.cell? ⟨b1, o1 + k * 2 + 1, none⟩ = some ws[k].data.val := by simpa using G0 1 _ rfl
      clear G0
      generalize ws[k] = y at *
      obtain ⟨pos, s⟩ := y
      obtain ⟨sA, sn, sc, hsv⟩ : ∃ A n c, s.val = .slice A n c := ⟨_, _, _, rfl⟩
      have HV := Lib.hid hsv
      simp only [hsv] at G2
      clear hsv
      have c0' : wr.cell? ⟨B, 0, none⟩ = some (.slice A n c) := HD.out.c0
      have q0 : (0 : Int) ≤ k := by omega
      have q1 : (k : Int) < m := by omega
      have hBl := HD.out.lt
      go_wp2_with fail
      generalize hw1 : World.alloc wr _ = w1
      obtain ⟨e4, z4, G4⟩ := box_cells hw1
      have g0 := G4 0 _ rfl
      have g1 := G4 1 _ rfl
      have Z4 := Lib.hid z4
      clear hw1 G4 z4
      have r4 := Ext.refl w1
      refine (HC.out _ (by (repeat (first | exact Below.refl _ _ | exact Ext.refl _ | assumption | refine Below.drew ?_ | refine below_drewN ?_ _ | refine below_alloc ?_ (by first | exact Nat.le_refl _ | assumption | (simp; done) | omega | (simp; omega)) _ | refine below_ext ?_ (by assumption) (by first | exact Nat.le_refl _ | assumption | (simp; done) | omega | (simp; omega)) | refine Ext.drew ?_ | refine Ext.drewN ?_ _ | refine Ext.alloc ?_ _ | refine Ext.setCell ?_ (by first | assumption | (simp; done) | (simp; omega)) _ | refine Below.setCell ?_ (by first | assumption | (simp; done) | (simp; omega)) _ | refine Ext.trans ?_ (by assumption))))).mono ?_
      rintro e w2 ⟨rfl, e2⟩
      have e5 : Ext w1 w2 := by (repeat (first | exact Below.refl _ _ | exact Ext.refl _ | assumption | refine Below.drew ?_ | refine below_drewN ?_ _ | refine below_alloc ?_ (by first | exact Nat.le_refl _ | assumption | (simp; done) | omega | (simp; omega)) _ | refine below_ext ?_ (by assumption) (by first | exact Nat.le_refl _ | assumption | (simp; done) | omega | (simp; omega)) | refine Ext.drew ?_ | refine Ext.drewN ?_ _ | refine Ext.alloc ?_ _ | refine Ext.setCell ?_ (by first | assumption | (simp; done) | (simp; omega)) _ | refine Below.setCell ?_ (by first | assumption | (simp; done) | (simp; omega)) _ | refine Ext.trans ?_ (by assumption)))
      have e6 : Ext wr w2 := e4.trans e5
      have HD2 := Lib.hid (HD.out.ext e6)
      have HX2 := Lib.hid (Wrt.At.imp HX.out.1 (rd_on e6 (Nat.le_refl _)))
      have e7 : Below lo w w2 := e1.trans (Below.mono e6 (by omega))
      cases hkp : kp k
      · have hsU2 := Lib.hid (show setU kp ws xs (k + 1) = setU kp ws xs k by rw [hsU.out, hkp]; simp)
        go_wp2_with fail
        go_roundw
        case rel => exact ⟨k + 1, by omega, by go_num, Lib.hid (by rw [hsU2.out]; exact HD2.out), e7⟩
        case measure => simp [intOf]; omega
      · have hsU2 := Lib.hid (show setU kp ws xs (k + 1) = (setU kp ws xs k).set pos.toNat s by rw [hsU.out, hkp]; simp)
        have c0'' : w2.cell? ⟨B, 0, none⟩ = some (.slice A n c) := HD2.out.c0
        obtain ⟨p0, p1⟩ := HQ.out
        have hA2 : A = some ⟨g, 0, none⟩ := HD.out.at_.secA
        subst hA2
        have hn : n = xs.length := by have := HD.out.at_.secn; rw [setU_length] at this; exact this
        obtain ⟨pn, rfl⟩ : ∃ pn : Nat, pos = (pn : Int) := ⟨pos.toNat, by omega⟩
        have p1' : pn < n := by omega
        have p2 : (0 : Int) ≤ (pn : Int) := by omega
        have p3 : (pn : Int) < (n : Int) := by omega
        obtain ⟨s1, s2⟩ := HD2.out.at_.row.cell (k := pn) (List.getElem?_eq_getElem (by rw [List.length_map, setU_length, ← hn]; exact p1'))
        rw [Nat.zero_add] at s1 s2
        generalize (List.map Sl.val _)[pn]'_ = ov at s1
        clear p0 p1
        have Hn2 := Lib.hid hn
        clear hn
        go_wp2_with fail
        refine rgnE (S := fun w' => w'.cell? ⟨B, 0, none⟩ = some (.slice (some ⟨g, 0, none⟩) n c) ∧ w'.cell? ⟨wr.heap.size, 0, none⟩ = some (.int .i64 (pn : Int)) ∧ w'.cell? ⟨wr.heap.size, 1, none⟩ = some (.slice sA sn sc)) (by kernel_rfl) ⟨c0'', g0 _ (by (repeat (first | exact Below.refl _ _ | exact Ext.refl _ | assumption | refine Below.drew ?_ | refine below_drewN ?_ _ | refine below_alloc ?_ (by first | exact Nat.le_refl _ | assumption | (simp; done) | omega | (simp; omega)) _ | refine below_ext ?_ (by assumption) (by first | exact Nat.le_refl _ | assumption | (simp; done) | omega | (simp; omega)) | refine Ext.drew ?_ | refine Ext.drewN ?_ _ | refine Ext.alloc ?_ _ | refine Ext.setCell ?_ (by first | assumption | (simp; done) | (simp; omega)) _ | refine Below.setCell ?_ (by first | assumption | (simp; done) | (simp; omega)) _ | refine Ext.trans ?_ (by assumption)))), g1 _ (by (repeat (first | exact Below.refl _ _ | exact Ext.refl _ | assumption | refine Below.drew ?_ | refine below_drewN ?_ _ | refine below_alloc ?_ (by first | exact Nat.le_refl _ | assumption | (simp; done) | omega | (simp; omega)) _ | refine below_ext ?_ (by assumption) (by first | exact Nat.le_refl _ | assumption | (simp; done) | omega | (simp; omega)) | refine Ext.drew ?_ | refine Ext.drewN ?_ _ | refine Ext.alloc ?_ _ | refine Ext.setCell ?_ (by first | assumption | (simp; done) | (simp; omega)) _ | refine Below.setCell ?_ (by first | assumption | (simp; done) | (simp; omega)) _ | refine Ext.trans ?_ (by assumption))))⟩ (fun hHeld => ?_)
        refine takeE 0 (v := ?_) rfl (by kernel_rfl) (by kernel_rfl) (by kernel_rfl) (by kernel_rfl) (fun _ _ _ h => h) (by kernel_rfl) ?_ (by assumption) ?_; rotate_left; (focus (intro w hSw; (try dsimp only at hSw); (try go_split_ands); go_simp <;> with_reducible rfl)); (try simp only [Act.put, lyA, lyB, lyC])
        refine takeE 1 (v := ?_) rfl (by kernel_rfl) (by kernel_rfl) (by kernel_rfl) (by kernel_rfl) (fun _ _ _ h => h) (by kernel_rfl) ?_ (by assumption) ?_; rotate_left; (focus (intro w hSw; (try dsimp only at hSw); (try go_split_ands); go_simp <;> with_reducible rfl)); (try simp only [Act.put, lyA, lyB, lyC])
        refine takeE 2 (v := ?_) rfl (by kernel_rfl) (by kernel_rfl) (by kernel_rfl) (by kernel_rfl) (fun _ _ _ h => h) (by kernel_rfl) ?_ (by assumption) ?_; rotate_left; (focus (intro w hSw; (try dsimp only at hSw); (try go_split_ands); go_simp <;> with_reducible rfl)); (try simp only [Act.put, lyA, lyB, lyC])
        refine takeE 3 (v := ?_) rfl (by kernel_rfl) (by kernel_rfl) (by kernel_rfl) (by kernel_rfl) (fun _ _ _ h => h) (by kernel_rfl) ?_ (by assumption) ?_; rotate_left; (focus (intro w hSw; (try dsimp only at hSw); (try go_split_ands); go_simp <;> with_reducible rfl)); (try simp only [Act.put, lyA, lyB, lyC])
        refine takeE 4 (v := ?_) rfl (by kernel_rfl) (by kernel_rfl) (by kernel_rfl) (by kernel_rfl) (fun _ _ _ h => h) (by kernel_rfl) ?_ (by assumption) ?_; rotate_left; (focus (intro w hSw; (try dsimp only at hSw); (try go_split_ands); go_simp <;> with_reducible rfl)); (try simp only [Act.put, lyA, lyB, lyC])
        refine takeE 5 (v := ?_) rfl (by kernel_rfl) (by kernel_rfl) (by kernel_rfl) (by kernel_rfl) (fun _ _ _ h => h) (by kernel_rfl) ?_ (by assumption) ?_; rotate_left; (focus (intro w hSw; (try dsimp only at hSw); (try go_split_ands); go_simp <;> with_reducible rfl)); (try simp only [Act.put, lyA, lyB, lyC])
        refine takeE 6 (v := ?_) rfl (by kernel_rfl) (by kernel_rfl) (by kernel_rfl) (by kernel_rfl) (fun _ _ _ h => h) (by kernel_rfl) ?_ (by assumption) ?_; rotate_left; (focus (intro w hSw; (try dsimp only at hSw); (try go_split_ands); go_simp <;> with_reducible rfl)); (try simp only [Act.put, lyA, lyB, lyC])
        refine takeE 7 (v := ?_) rfl (by kernel_rfl) (by kernel_rfl) (by kernel_rfl) (by kernel_rfl) (fun _ _ _ h => h) (by kernel_rfl) ?_ (by assumption) ?_; rotate_left; (focus (intro w hSw; (try dsimp only at hSw); (try go_split_ands); go_simp <;> with_reducible rfl)); (try simp only [Act.put, lyA, lyB, lyC])
        refine takeE 8 (v := ?_) rfl (by kernel_rfl) (by kernel_rfl) (by kernel_rfl) (by kernel_rfl) (fun _ _ _ h => h) (by kernel_rfl) ?_ (by assumption) ?_; rotate_left; (focus (intro w hSw; (try dsimp only at hSw); (try go_split_ands); go_simp <;> with_reducible rfl)); (try simp only [Act.put, lyA, lyB, lyC])
        refine lastE 9 rfl (by kernel_rfl) (by kernel_rfl) (by kernel_rfl) (by kernel_rfl) (fun K hK => ?_); (try go_simp)
        refine hK.out _ _ ?_; clear hK K; (try simp only [Act.put, lyA, lyB, lyC])
        go_wp2_with fail
        go_roundw
        case rel =>
          refine ⟨k + 1, by omega, by go_num, Lib.hid ?_, ?_⟩
          · rw [hsU2.out, ← HV.out]
            have := HD2.out.put (k := pn) (by show pn < (setU kp ws xs k).length; rw [setU_length, ← Hn2.out]; exact p1') HX2.out.data HX.out.2 HN.out
            have h9 := this.ext ((Ext.refl _).drew)
            simpa using h9
          · rw [← HV.out]; exact (e7.setCell (p := ⟨g, pn, none⟩) hlg _).drew
        case measure => simp [intOf]; omega
    · obtain rfl : k = m := by omega
      have f1' : wr.frozen? ⟨B, 1, none⟩ = false := HD.out.f1
      have c1' : wr.cell? ⟨B, 1, none⟩ = some (.slice vA k vc) := HD.out.c1
      have hBl := HD.out.lt
      go_wp2_with fail
      go_end0
      exact ⟨rfl, HD.out.clear, e1.setCell (p := ⟨B, 1, none⟩) (by show lo ≤ B; omega) _⟩
end Go.Proofs.YtfongpdeflfioaaGreat
/- device.fault; a write put behind those that wait; plain laws of devices. -/
namespace Go.Proofs.YtfongpdeflfioaaGreat
open Go.RowKit
set_option linter.unusedSimpArgs false
set_option linter.unusedVariables false

structure Ac where
  flush : Bool
  pos : Int
  data : Oct
def Ac.cells (x : Ac) : List Value := [.bool x.flush, .int .i64 x.pos, x.data.val]
structure Ac.At (w : World) (lo hi : Nat) (x : Ac) : Prop where
  p0 : -9223372036854775808 ≤ x.pos
  p1 : x.pos ≤ 9223372036854775807
  data : Oct.At w lo hi x.data
def faultE (n : Nat) (a : Ac) : Int := if a.flush = true then 0 else if a.pos < 0 ∨ (n : Int) ≤ a.pos then 4 else if a.data.n = 64 then 0 else 5
set_option maxHeartbeats 1000000 in
theorem fault_any (d : Dev) (a : Ac) (w : World) (hn : d.secs.n ≤ 9223372036854775807) (p0 : -9223372036854775808 ≤ a.pos) (p1 : a.pos ≤ 9223372036854775807) (hd : a.data.n ≤ 9223372036854775807) :
    Calls Tryz.prog 61 #[.agg d.cells.toArray, .agg a.cells.toArray] w fun e w' => e = .returned (.int .i64 (faultE d.secs.n a)) ∧ Ext w w' := by
  have H := Lib.hid (fun w1 => odd_any a.data w1 hd)
  have ho : Hid (oddO a.data = !decide (a.data.n = 64)) := Lib.hid (by rw [oddO, Bool.eq_iff_iff]; simp)
  have hv := Lib.hid (show faultE d.secs.n a = if a.flush = true then 0 else if a.pos < 0 ∨ (d.secs.n : Int) ≤ a.pos then 4 else if a.data.n = 64 then 0 else 5 from rfl)
  generalize faultE d.secs.n a = v at *
  generalize oddO a.data = od at *
  obtain ⟨⟨A, n, c, xs⟩, ⟨B, m, k, ys⟩⟩ := d
  obtain ⟨fl, pos, ⟨aA, an, ac, ax⟩⟩ := a
  simp only [Dev.cells, Ac.cells, Sl.val] at *
  have hcase : fl = true ∨ (fl = false ∧ pos < 0) ∨ (fl = false ∧ 0 ≤ pos ∧ (n : Int) ≤ pos) ∨ (fl = false ∧ 0 ≤ pos ∧ pos < (n : Int)) := by cases fl <;> simp <;> omega
  rcases hcase with q0 | ⟨q0, q1⟩ | ⟨q0, q1, q2⟩ | ⟨q0, q1, q2⟩
  all_goals
    subst q0
    go_enter Tryz.func61, Tryz.ntmps61
    go_wp2_with (go_at_call 84; refine (H.out _).mono ?_; rintro e w2 ⟨rfl, e2⟩)
    all_goals (go_ret; refine ⟨retI ?_, by (repeat (first | exact Below.refl _ _ | exact Ext.refl _ | assumption | refine Below.drew ?_ | refine below_drewN ?_ _ | refine below_alloc ?_ (by first | exact Nat.le_refl _ | assumption | (simp; done) | omega | (simp; omega)) _ | refine below_ext ?_ (by assumption) (by first | exact Nat.le_refl _ | assumption | (simp; done) | omega | (simp; omega)) | refine Ext.drew ?_ | refine Ext.drewN ?_ _ | refine Ext.alloc ?_ _ | refine Ext.setCell ?_ (by first | assumption | (simp; done) | (simp; omega)) _ | refine Below.setCell ?_ (by first | assumption | (simp; done) | (simp; omega)) _ | refine Ext.trans ?_ (by assumption)))⟩; rw [hv.out]; try (first | (simp [*]; done) | (simp [*]; omega) | (rw [if_neg (by simp), if_neg (by omega)]; have h9 := ho.out; subst h9; simp_all; done)))

section
variable {w w' : World} {lo g B : Nat} {d : Dev}
/-- a write more -/
theorem Dev.OwnB.push (h : Dev.OwnB w lo g B d) {pos : Int} (hp0 : -9223372036854775808 ≤ pos) (hp1 : pos ≤ 9223372036854775807) {s : Oct} (hs : Oct.At w (g + 1) w.heap.size s) (ha : Ap d.waits.val s) (hn : Nb B s) {A4 : Option Addr} {c4 : Nat}
    (o4 : w'.ownsRow (g + 1) 114 2 (.slice A4 (d.waits.n + 1) c4) (d.waits.n + 1) (d.waits.xs.flatMap Wrt.cells ++ [.int .i64 pos, s.val])) (hg : w.grownBy w' d.waits.val.ownBlock)
    (hob : (Value.slice A4 (d.waits.n + 1) c4).ownBlock = d.waits.val.ownBlock ∨ (Value.slice A4 (d.waits.n + 1) c4).ownBlock = some w.heap.size) :
    Dev.OwnB (w'.setCell ⟨B, 1, none⟩ (.slice A4 (d.waits.n + 1) c4)) lo g B ⟨d.secs, ⟨A4, d.waits.n + 1, c4, d.waits.xs ++ [⟨pos, s⟩]⟩⟩ := by
  have hsz : (w'.setCell ⟨B, 1, none⟩ (.slice A4 (d.waits.n + 1) c4)).heap.size = w'.heap.size := by simp
  have hgB := h.gB
  have hlt := h.lt
  have hbB := hg.block B hlt (fun e => h.own e.symm)
  have hbv : ∀ b, d.waits.val.ownBlock = some b → g + 1 ≤ b ∧ b < w.heap.size := fun b hb => h.at_.own.lt b hb
  have ap4 : ∀ x : Oct, Oct.At w (g + 1) w.heap.size x → Ap d.waits.val x → Ap (.slice A4 (d.waits.n + 1) c4) x := fun x hx hap hne b o hA hb => by
    rcases hob with h' | h'
    · exact hap hne b o hA (by rw [← h']; exact hb)
    · rw [h'] at hb
      injection hb with hb
      exact Ap.of_lt hx (v := .slice A4 (d.waits.n + 1) c4) (fun b' hb' => by rw [h'] at hb'; injection hb' with hb'; omega) hne b o hA (by rw [h', hb])
  have keep : ∀ x : Oct, Oct.At w (g + 1) w.heap.size x → Ap d.waits.val x → Nb B x → Oct.At (w'.setCell ⟨B, 1, none⟩ (.slice A4 (d.waits.n + 1) c4)) (g + 1) (w'.setCell ⟨B, 1, none⟩ (.slice A4 (d.waits.n + 1) c4)).heap.size x := fun x hx hap hnb => by
    rw [hsz]
    exact Oct.At.set_ne (Oct.At.grown hx hg hap) hnb _
  have hown4 : (Value.slice A4 (d.waits.n + 1) c4).ownBlock ≠ some B := fun e => by
    rcases hob with h' | h'
    · exact h.own (by rw [← h']; exact e)
    · rw [h'] at e; injection e with e; omega
  refine ⟨⟨h.at_.lo_g, by rw [hsz]; exact Nat.lt_of_lt_of_le h.at_.g_lt hg.size, h.at_.secA, h.at_.secn, h.at_.secc, h.at_.secm, ?_, fun x hx => ⟨keep x (h.at_.secs x hx).1 (h.at_.secs x hx).2 (h.secs x hx), ap4 x (h.at_.secs x hx).1 (h.at_.secs x hx).2⟩,
      by show d.waits.n + 1 = _; rw [List.length_append, h.at_.wn]; rfl, ?_, fun x hx => ?_⟩, h.gB, by rw [hsz]; exact Nat.lt_of_lt_of_le h.lt hg.size,
    (World.cell?_setCell_other _ _ _ _ (fun e => by injection e with _ e2; omega)).trans ((World.cell?_of_block hbB).trans h.c0), World.cell?_setCell_same _ _ _ ((World.cell?_of_block hbB).trans h.c1),
    (World.frozen?_setCell _ _ _ _).trans ((World.frozen?_of_block hbB).trans h.f0), (World.frozen?_setCell _ _ _ _).trans ((World.frozen?_of_block hbB).trans h.f1), h.secs, hown4, fun x hx => ?_⟩
  · rw [hsz]
    exact ((h.at_.row.grown_ne hg (Nat.le_refl _) (fun _ b o hA hb => by
      injection hA with hA
      injection hA with hA
      have := hbv _ hb
      omega)).else_ (p := ⟨B, 1, none⟩) (by show B ≠ g; omega) _).more (Nat.le_refl _) hg.size
  · have := own_set_ne o4 (p := ⟨B, 1, none⟩) hown4 (.slice A4 (d.waits.n + 1) c4)
    show World.ownsRow _ _ _ _ (.slice A4 (d.waits.n + 1) c4) _ ((d.waits.xs ++ [(⟨pos, s⟩ : Wrt)]).flatMap Wrt.cells)
    rw [List.flatMap_append]
    simpa [Wrt.cells] using this
  · rcases List.mem_append.1 hx with h' | h'
    · exact ⟨⟨(h.at_.waits x h').1.p0, (h.at_.waits x h').1.p1, keep _ (h.at_.waits x h').1.data (h.at_.waits x h').2 (h.waits x h')⟩, ap4 _ (h.at_.waits x h').1.data (h.at_.waits x h').2⟩
    · simp only [List.mem_singleton] at h'
      subst h'
      exact ⟨⟨hp0, hp1, keep s hs ha hn⟩, ap4 s hs ha⟩
  · rcases List.mem_append.1 hx with h' | h'
    · exact h.waits x h'
    · simp only [List.mem_singleton] at h'
      subst h'
      exact hn
end
end Go.Proofs.YtfongpdeflfioaaGreat
/- store's writer.put. -/
namespace Go.Proofs.YtfongpdeflfioaaGreat
open Go.RowKit Go.Maps Go.Sort Go.Shelf
set_option linter.unusedVariables false
set_option linter.unusedSimpArgs false

theorem no_more {m : Nat → Bool} {listed : Array Bool} (hl : ((List.range listed.size).all fun k => !m k || listed.getD k true) = true) : ¬ MoreM m listed := fun ⟨k, hk, hm⟩ => by
  have hlt : k < listed.size := by
    rcases Nat.lt_or_ge k listed.size with h' | h'
    · exact h'
    · simp [h'] at hm
  have := List.all_eq_true.1 hl k (List.mem_range.2 hlt)
  rw [hm, hk] at this
  cases this
theorem infoAct : (Tryz.prog.info? 106).map (fun i => (i.zero, i.size, i.bytes)) = some (some (.agg #[.bool false, .int .i64 0, .slice none 0 0]), 3, 40) := by kernel_rfl
/-- the writer's three items -/
abbrev wits (wb : Nat) (fA : Option Addr) (fn fc : Nat) (aA : Option Addr) (ac : Nat) (acts : List Ac) (S : Nat → Prop) (L : RdL) (its : List It) : List It :=
  .box wb [.slice fA fn fc, .slice aA acts.length ac] :: .row 106 3 (.slice aA acts.length ac) acts.length (acts.flatMap Ac.cells) :: It.bag S L :: its
/-- writes of pages -/
def putA (ys : List Int) (ps : List Oct) : List Ac := List.zipWith (fun y o => (⟨false, y, o⟩ : Ac)) ys ps
theorem putA_take (ys : List Int) (ps : List Oct) (k : Nat) (h1 : k < ys.length) (h2 : k < ps.length) : putA (ys.take (k + 1)) (ps.take (k + 1)) = putA (ys.take k) (ps.take k) ++ [⟨false, ys[k], ps[k]⟩] := by
  rw [List.take_succ_eq_append_getElem h1, List.take_succ_eq_append_getElem h2, putA, putA, List.zipWith_append (by simp; omega)]
  rfl
theorem putA_len (ys : List Int) (ps : List Oct) : (putA ys ps).length = min ys.length ps.length := by simp [putA]
/-- what writer.put tells where there is room -/
structure PutOk (w0 : World) (wb : Nat) (fs : List Int) (acts : List Ac) (L : RdL) (its : List It) (k : Nat) (pg : List (List UInt8)) (w' : World) (A : Option Addr) (c : Nat) (fA' : Option Addr) (fc' : Nat) (aA' : Option Addr) (ac' : Nat) (S' : Nat → Prop) (L' : RdL) (pgs : List Oct) : Prop where
  le : k ≤ c
  cap : c ≤ maxLen
  pages : pgs.map (·.xs) = pg
  inb : ∀ o ∈ pgs, InBag L' o
  ats : (A, ints (fs.take k)) ∈ L'
  free : (fA', ints (fs.drop k)) ∈ L'
  fle : fs.length - k ≤ fc'
  more : ∀ q ∈ L, q ∈ L'
  heap : Heap w0 (wits wb fA' (fs.length - k) fc' aA' ac' (acts ++ putA (fs.take k) pgs) S' L' its) w'
set_option maxRecDepth 100000 in
set_option maxHeartbeats 8000000 in
theorem wput_ok {w0 w : World} {its : List It} (wb : Nat) (fA : Option Addr) (fn fc : Nat) (aA : Option Addr) (ac : Nat) (acts : List Ac) (S : Nat → Prop) (L : RdL) (fs : List Int) (H : Heap w0 (wits wb fA fn fc aA ac acts S L its) w)
    (hf : (fA, ints fs) ∈ L) (hn : fn = fs.length) (hc : fn ≤ fc) (hN : fn ≤ 100000000) (ha : acts.length ≤ 1000000)
    (bA : Option Addr) (n c : Nat) (b : List UInt8) (hb : n = b.length) (hr : Rd w0 0 w0.heap.size bA (bytes b)) (hbc : n ≤ c) (hbn : n ≤ 65536) (hm : cntP n ≤ fn) :
    Calls Tryz.prog 55 #[.pointer (some ⟨wb, 0, none⟩), .slice bA n c] w fun e w' => ∃ A c' fA' fc' aA' ac' S' L' pgs, e = .returned (.slice A (cntP n) c') ∧ PutOk w0 wb fs acts L its (cntP n) (cutB b) w' A c' fA' fc' aA' ac' S' L' pgs := by
  obtain ⟨i0, hi0, hz0, hz1, hz2⟩ := info_parts infoAct
  have HH := Lib.hid H
  have HF := Lib.hid hf
  have Hn := Lib.hid hn
  have Hb := Lib.hid hb
  have HR := Lib.hid hr
  clear H hf hn hb hr
  have hcp : cntP n ≤ 1261 := by unfold cntP; omega
  go_enter Tryz.func55, Tryz.ntmps55
  go_wp2_with fail
  refine (pcut_any w bA n c b Hb.out (HH.out.old HR.out) hbc (by omega)).mono ?_
  rintro e w1 ⟨⟨sA, sn, sc, os⟩, rfl, hcut, hs, e1⟩
  have hsl : sn = cntP n := by
    have h1 := congrArg List.length hcut
    have h2 := hs.len
    dsimp only at h1 h2
    rw [List.length_map, cutB, List.length_map, List.length_range, ← Hb.out] at h1
    rw [h2, h1]
  subst hsl
  obtain ⟨S1, H1⟩ := HH.out.bagExt (j := 2) rfl e1 (L2 := (sA, os.map Sl.val) :: os.map fun o => (o.A, bytes o.xs)) (fun q hq => by
    rcases List.mem_cons.1 hq with rfl | hq
    · have := hs.rd; rwa [vals_flat] at this
    · obtain ⟨o, ho, rfl⟩ := List.mem_map.1 hq
      exact (hs.all o ho).rdb)
  have HOb := Lib.hid (fun o (ho : o ∈ os) => show InBag (((sA, os.map Sl.val) :: os.map fun o => (o.A, bytes o.xs)) ++ L) o from
    ⟨(hs.all o ho).len, (hs.all o ho).le, (hs.all o ho).cap, List.mem_append_left _ (List.mem_cons_of_mem _ (List.mem_map_of_mem (f := fun o : Oct => (o.A, bytes o.xs)) ho))⟩)
  have HOl := Lib.hid (show os.length = cntP n from hs.len.symm)
  have HCut := Lib.hid hcut
  generalize hL1 : ((sA, os.map Sl.val) :: os.map fun o => (o.A, bytes o.xs)) ++ L = L1 at *
  have HL1 := Lib.hid (show (sA, os.map Sl.val) ∈ L1 ∧ ∀ q ∈ L, q ∈ L1 by rw [← hL1]; exact ⟨List.mem_append_left _ (List.mem_cons_self ..), fun q hq => List.mem_append_right _ hq⟩)
  have HH1 := Lib.hid (show Heap w0 (wits wb fA fn fc aA ac acts S1 L1 its) w1 from H1)
  clear HH hcut hs H1 hL1 e1
  simp only [Sl.val]
  go_wp2_with fail
  refine (take_ok HH1.out wb fA fn fc _ 0 2 (cntP n) (by decide) rfl S1 L1 rfl fs (HL1.out.2 _ HF.out) Hn.out hc hm hN).mono ?_
  rintro e w2 ⟨A2, c2, fA2, S2, rfl, k1, k2, h2⟩
  obtain ⟨L2, hL2⟩ : ∃ L2, L2 = (fA2, ints (fs.drop (cntP n))) :: (A2, ints (fs.take (cntP n))) :: L1 := ⟨_, rfl⟩
  have HM := Lib.hid (show (fA2, ints (fs.drop (cntP n))) ∈ L2 ∧ (A2, ints (fs.take (cntP n))) ∈ L2 ∧ ∀ q ∈ L1, q ∈ L2 by rw [hL2]; exact ⟨List.mem_cons_self .., List.mem_cons_of_mem _ (List.mem_cons_self ..), fun q hq => List.mem_cons_of_mem _ (List.mem_cons_of_mem _ hq)⟩)
  have HH2 := Lib.hid (show Heap w0 (wits wb fA2 (fn - cntP n) (fc - cntP n) aA ac acts S2 L2 its) w2 by rw [hL2]; exact h2)
  clear hL2 h2 HH1
  go_wp2_with fail
  have HT := Lib.hid (show (fs.take (cntP n)).length = cntP n by rw [List.length_take, ← Hn.out]; omega)
  have HYw := Lib.hid (show True from trivial)
  go_loopw [17] (fun v wr => ∃ (k : Nat) (aA' : Option Addr) (ac' : Nat), k ≤ cntP n ∧ v = .int .i64 (k : Int) ∧ Hid (Heap w0 (wits wb fA2 (fn - cntP n) (fc - cntP n) aA' ac' (acts ++ putA ((fs.take (cntP n)).take k) (os.take k)) S2 L2 its) wr)) (fun v _ => cntP n - (intOf v).toNat)
  case atStart => exact ⟨0, aA, ac, Nat.zero_le _, rfl, by rw [List.take_zero, List.take_zero, show putA [] [] = [] from rfl, List.append_nil]; exact HH2⟩
  case round =>
    clear HH2
    obtain ⟨k, aA', ac', hk, rfl, HH⟩ := hrel
    by_cases hlt : k < cntP n
    · have l1 : k < (fs.take (cntP n)).length := by rw [HT.out]; exact hlt
      have l2 : k < os.length := by rw [HOl.out]; exact hlt
      obtain ⟨gb, go, rfl, hgb, f0⟩ := rd_int2 (HH.out.bagRd (j := 2) rfl HM.out.2.1) l1
      obtain ⟨sb, so, rfl, _, hsb, G⟩ := rd_flat (cells := octv) (size := 1) (fun _ => rfl) (by omega) (xs := os) (by rw [vals_flat]; exact HH.out.bagRd (j := 2) rfl (HM.out.2.2 _ HL1.out.1)) l2
      have g0 := G 0 _ rfl
      simp only [Nat.mul_one, Nat.add_zero] at g0
      have HA1 := Lib.hid (show acts ++ putA ((fs.take (cntP n)).take (k + 1)) (os.take (k + 1)) = (acts ++ putA ((fs.take (cntP n)).take k) (os.take k)) ++ [⟨false, (fs.take (cntP n))[k], os[k]⟩] by rw [putA_take _ _ k l1 l2, List.append_assoc])
      have hal : (acts ++ putA ((fs.take (cntP n)).take k) (os.take k)).length ≤ 2000000 := by
        rw [List.length_append, putA_len, List.length_take]; omega
      clear G
      generalize acts ++ putA ((fs.take (cntP n)).take k) (os.take k) = ak at *
      generalize (fs.take (cntP n))[k] = y at *
      generalize os[k] = o at *
      obtain ⟨oA, om, oc, ox⟩ := o
      simp only [Sl.val] at g0
      have c1 := (HH.out.boxAt 0 rfl).cell 1 _ rfl
      have hlt0 := (HH.out.boxAt 0 rfl).lt
      go_upto_region 6 with fail
      have HHd := Lib.hid HH.out.drew
      clear HH
      have HF := Lib.hid (fun W (e : Ext wr.drew W) => show W.cell? ⟨wb, 1, none⟩ = some (.slice aA' ak.length ac') ∧ W.cell? ⟨gb, go + k, none⟩ = some (.int .i64 y) from ⟨(Below.cell (p := ⟨wb, 1, none⟩) e hlt0).trans c1, (Below.cell (p := ⟨gb, go + k, none⟩) e hgb).trans f0⟩)
      clear c1 f0 g0 hlt0
      refine rgnM (fun k => Nat.blt 0 k && Nat.blt k 13) (S := fun W => W.cell? ⟨wb, 1, none⟩ = some (.slice aA' ak.length ac') ∧ W.cell? ⟨gb, go + k, none⟩ = some (.int .i64 y)) (by kernel_rfl) (HF.out _ (Ext.refl _)) (fun hHeld => ?_)
      generalize World.drew wr = wd at *
      refine pureM 0 (v := ?_) rfl (by kernel_rfl) (by kernel_rfl) (by kernel_rfl) (by kernel_rfl) (fun _ _ _ h => h) (by kernel_rfl) ?_ (fun _ => by assumption) ?_; rotate_left; (focus (intro w; go_simp <;> with_reducible rfl)); (try simp only [Act.put, lyA, lyB, lyC])
      refine takeM 1 (v := ?_) rfl (by kernel_rfl) (by kernel_rfl) (by kernel_rfl) (by kernel_rfl) (fun _ _ _ h => h) (by kernel_rfl) ?_ (by assumption) ?_; rotate_left; (focus (intro w hSw; (try dsimp only at hSw); (try go_split_ands); go_simp <;> with_reducible rfl)); (try simp only [Act.put, lyA, lyB, lyC])
      refine takeM 2 (v := ?_) rfl (by kernel_rfl) (by kernel_rfl) (by kernel_rfl) (by kernel_rfl) (fun _ _ _ h => h) (by kernel_rfl) ?_ (by assumption) ?_; rotate_left; (focus (intro w hSw; (try dsimp only at hSw); (try go_split_ands); go_simp <;> with_reducible rfl)); (try simp only [Act.put, lyA, lyB, lyC])
      refine takeM 3 (v := ?_) rfl (by kernel_rfl) (by kernel_rfl) (by kernel_rfl) (by kernel_rfl) (fun _ _ _ h => h) (by kernel_rfl) ?_ (by assumption) ?_; rotate_left; (focus (intro w hSw; (try dsimp only at hSw); (try go_split_ands); go_simp <;> with_reducible rfl)); (try simp only [Act.put, lyA, lyB, lyC])
      refine takeM 4 (v := ?_) rfl (by kernel_rfl) (by kernel_rfl) (by kernel_rfl) (by kernel_rfl) (fun _ _ _ h => h) (by kernel_rfl) ?_ (by assumption) ?_; rotate_left; (focus (intro w hSw; (try dsimp only at hSw); (try go_split_ands); go_simp <;> with_reducible rfl)); (try simp only [Act.put, lyA, lyB, lyC])
      refine takeM 5 (v := ?_) rfl (by kernel_rfl) (by kernel_rfl) (by kernel_rfl) (by kernel_rfl) (fun _ _ _ h => h) (by kernel_rfl) ?_ (by assumption) ?_; rotate_left; (focus (intro w hSw; (try dsimp only at hSw); (try go_split_ands); go_simp <;> with_reducible rfl)); (try simp only [Act.put, lyA, lyB, lyC])
      refine takeM 6 (v := ?_) rfl (by kernel_rfl) (by kernel_rfl) (by kernel_rfl) (by kernel_rfl) (fun _ _ _ h => h) (by kernel_rfl) ?_ (by assumption) ?_; rotate_left; (focus (intro w hSw; (try dsimp only at hSw); (try go_split_ands); go_simp <;> with_reducible rfl)); (try simp only [Act.put, lyA, lyB, lyC])
      refine takeM 7 (v := ?_) rfl (by kernel_rfl) (by kernel_rfl) (by kernel_rfl) (by kernel_rfl) (fun _ _ _ h => h) (by kernel_rfl) ?_ (by assumption) ?_; rotate_left; (focus (intro w hSw; (try dsimp only at hSw); (try go_split_ands); go_simp <;> with_reducible rfl)); (try simp only [Act.put, lyA, lyB, lyC])
      refine takeM 8 (v := ?_) rfl (by kernel_rfl) (by kernel_rfl) (by kernel_rfl) (by kernel_rfl) (fun _ _ _ h => h) (by kernel_rfl) ?_ (by assumption) ?_; rotate_left; (focus (intro w hSw; (try dsimp only at hSw); (try go_split_ands); go_simp <;> with_reducible rfl)); (try simp only [Act.put, lyA, lyB, lyC])
      refine takeM 9 (v := ?_) rfl (by kernel_rfl) (by kernel_rfl) (by kernel_rfl) (by kernel_rfl) (fun _ _ _ h => h) (by kernel_rfl) ?_ (by assumption) ?_; rotate_left; (focus (intro w hSw; (try dsimp only at hSw); (try go_split_ands); go_simp <;> with_reducible rfl)); (try simp only [Act.put, lyA, lyB, lyC])
      refine takeM 10 (v := ?_) rfl (by kernel_rfl) (by kernel_rfl) (by kernel_rfl) (by kernel_rfl) (fun _ _ _ h => h) (by kernel_rfl) ?_ (by assumption) ?_; rotate_left; (focus (intro w hSw; (try dsimp only at hSw); (try go_split_ands); go_simp <;> with_reducible rfl)); (try simp only [Act.put, lyA, lyB, lyC])
      clear hHeld
      refine oneM 11 rfl (by kernel_rfl) (by kernel_rfl) (fun K hK => ?_)
      go_simp
      generalize hwA : World.alloc _ _ = w6
      have HH6 := Lib.hid (HHd.out.allocE hwA)
      have e6 : Ext wd w6 := by rw [← hwA]; exact (Ext.refl _).alloc _
      clear hwA HHd
      refine hK.out _ _ (HF.out _ e6) (fun hHeld => ?_)
      clear hK K hHeld e6
      (try simp only [Act.put, lyA, lyB, lyC])
      refine freeM 12 rfl (by kernel_rfl) (by kernel_rfl) (by kernel_rfl) (fun K hK => ?_)
      refine sh_app (.tmp 26) (.tmp 33) _ rfl Tryz.underlying50 hi0 hz0 hz1 hz2 rfl (by omega) HH6.out 2 rfl rfl (m := 1) rfl rfl (HH6.out.boxRd 0 rfl) (by simp [Value.oneCell']) (by simp only [maxLen]; omega) (by omega) ?_
      rintro v7 w7 hh7 ⟨A7, c7, rfl⟩
      have HH7 := Lib.hid (show Heap w0 (.box wb [.slice fA2 (fn - cntP n) (fc - cntP n), .slice aA' ak.length ac'] :: .row 106 3 (.slice A7 (ak.length + 1) c7) (ak.length + 1) (ak.flatMap Ac.cells ++ [.bool false, .int .i64 y, .slice oA om oc]) :: It.bag S2 L2 :: its) w7 from hh7.tail)
      clear hh7 HH6
      refine hK.out _ _ ?_
      clear hK K
      (try simp only [Act.put, lyA, lyB, lyC])
      refine pureM 13 (v := ?_) rfl (by kernel_rfl) (by kernel_rfl) (by kernel_rfl) (by kernel_rfl) (fun _ _ _ h => h) (by kernel_rfl) ?_ (fun h => absurd h (no_more (by kernel_rfl))) ?_; rotate_left; (focus (intro w; go_simp <;> with_reducible rfl)); (try simp only [Act.put, lyA, lyB, lyC])
      refine pureM 14 (v := ?_) rfl (by kernel_rfl) (by kernel_rfl) (by kernel_rfl) (by kernel_rfl) (fun _ _ _ h => h) (by kernel_rfl) ?_ (fun h => absurd h (no_more (by kernel_rfl))) ?_; rotate_left; (focus (intro w; go_simp <;> with_reducible rfl)); (try simp only [Act.put, lyA, lyB, lyC])
      refine freeM 15 rfl (by kernel_rfl) (by kernel_rfl) (by kernel_rfl) (fun K hK => ?_)
      refine sh_store1 HH7.out rfl rfl rfl 0 rfl (Nat.le_of_ble_eq_true rfl) rfl (by kernel_rfl) ?_
      intro w8 hh8
      have HH8 := Lib.hid (show Heap w0 (wits wb fA2 (fn - cntP n) (fc - cntP n) A7 c7 (ak ++ [⟨false, y, ⟨oA, om, oc, ox⟩⟩]) S2 L2 its) w8 by
        unfold wits
        rw [List.length_append, List.flatMap_append]
        exact hh8)
      clear hh8 HH7
      refine hK.out _ _ ?_
      clear hK K
      (try simp only [Act.put, lyA, lyB, lyC])
      refine doneM (by kernel_rfl) ?_
      go_wp2_with fail
      go_roundw
      case rel =>
        refine ⟨k + 1, A7, c7, by omega, by go_num, ?_⟩
        rw [HA1.out]
        exact HH8
      case measure => simp [intOf]; omega
    · obtain rfl : k = cntP n := by omega
      rw [List.take_of_length_le (Nat.le_of_eq HT.out), List.take_of_length_le (Nat.le_of_eq HOl.out)] at HH
      go_wp2_with fail
      go_ret
      refine ⟨A2, c2, fA2, fc - cntP n, aA', ac', S2, L2, os, rfl, k1, k2, HCut.out, fun o ho => ?_, HM.out.2.1, HM.out.1, by rw [← Hn.out]; omega, fun q hq => HM.out.2.2 _ (HL1.out.2 _ hq), by rw [← Hn.out]; exact HH.out⟩
      have h1 := HOb.out o ho
      exact ⟨h1.len, h1.le, h1.cap, HM.out.2.2 _ h1.mem⟩
set_option maxRecDepth 100000 in
set_option maxHeartbeats 8000000 in
theorem wput_bad {w0 w : World} {its : List It} (wb : Nat) (fA : Option Addr) (fn fc : Nat) (aA : Option Addr) (ac : Nat) (acts : List Ac) (S : Nat → Prop) (L : RdL) (H : Heap w0 (wits wb fA fn fc aA ac acts S L its) w)
    (bA : Option Addr) (n c : Nat) (b : List UInt8) (hb : n = b.length) (hr : Rd w0 0 w0.heap.size bA (bytes b)) (hbc : n ≤ c) (hbn : n ≤ 65536) (hm : fn < cntP n) :
    Calls Tryz.prog 55 #[.pointer (some ⟨wb, 0, none⟩), .slice bA n c] w fun e w' => e = .panicked [{ v := errV 17, recovered := false }] ∧ Heap w0 (wits wb fA fn fc aA ac acts S L its) w' := by
  have HH := Lib.hid H
  have Hb := Lib.hid hb
  have HR := Lib.hid hr
  clear H hb hr
  have hcp : cntP n ≤ 1261 := by unfold cntP; omega
  go_enter Tryz.func55, Tryz.ntmps55
  go_wp2_with fail
  refine (pcut_any w bA n c b Hb.out (HH.out.old HR.out) hbc (by omega)).mono ?_
  rintro e w1 ⟨⟨sA, sn, sc, os⟩, rfl, hcut, hs, e1⟩
  have hsl : sn = cntP n := by
    have h1 := congrArg List.length hcut
    have h2 := hs.len
    dsimp only at h1 h2
    rw [List.length_map, cutB, List.length_map, List.length_range, ← Hb.out] at h1
    rw [h2, h1]
  subst hsl
  have HH1 := Lib.hid (HH.out.later e1)
  clear HH hcut hs e1
  simp only [Sl.val]
  go_wp2_with fail
  refine (take_bad HH1.out wb fA fn fc _ 0 (cntP n) rfl hm (by omega)).mono ?_
  rintro e w2 ⟨rfl, h2⟩
  exact ⟨rfl, rfl, h2⟩
end Go.Proofs.YtfongpdeflfioaaGreat
