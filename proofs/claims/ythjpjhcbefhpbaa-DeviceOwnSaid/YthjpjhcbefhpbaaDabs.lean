/- The device's functions, told by contents. -/
import Derived.Test.YthjpjhcbefhpbaaReadD
import Derived.Test.YthjpjhcbefhpbaaDon
namespace Go.Proofs.Ythjpjhcbefhpbaa
open Go.RowKit
set_option linter.unusedSimpArgs false
set_option linter.unusedVariables false

abbrev SV := List (List UInt8)
abbrev WV := List (Int × List UInt8)
structure okV (S : SV) (W : WV) : Prop where
  lo : 2 ≤ S.length
  hi : S.length ≤ 8192
  secs : ∀ s ∈ S, s.length = 64
  waits : ∀ x ∈ W, 0 ≤ x.1 ∧ x.1 < (S.length : Int) ∧ x.2.length = 64
theorem secv_len {w : World} {lo hi : Nat} {d : Dev} (h : Dev.At w lo hi d) : d.secv.length = d.secs.n := by rw [Dev.secv, List.length_map]; exact h.secs.len.symm
theorem wv_len {w : World} {lo hi : Nat} {d : Dev} (h : Dev.At w lo hi d) : d.wv.length = d.waits.n := by rw [Dev.wv, List.length_map]; exact h.waits.len.symm
theorem chk_of {w : World} {lo hi : Nat} {d : Dev} (h : Dev.At w lo hi d) (ho : okV d.secv d.wv) : chkE d = 0 := by
  have hl := secv_len h
  unfold chkE
  rw [if_neg, if_neg]
  · intro hb
    obtain ⟨x, hx, hb⟩ := List.any_eq_true.1 hb
    obtain ⟨h1, h2, h3⟩ := ho.waits x.abs (List.mem_map_of_mem hx)
    have h4 := (h.waits.all x hx).data.len
    have h5 : x.data.xs.length = 64 := h3
    have h6 : x.pos < (d.secs.n : Int) := by rw [← hl]; exact h2
    have h7 : 0 ≤ x.pos := h1
    simp only [badW, oddO, Bool.or_eq_true, decide_eq_true_eq, bne_iff_ne] at hb
    omega
  · rintro (hb | hb | hb)
    · have := ho.lo; omega
    · have := ho.hi; omega
    · obtain ⟨x, hx, hb⟩ := List.any_eq_true.1 hb
      have h3 : x.xs.length = 64 := ho.secs x.xs (List.mem_map_of_mem (f := fun s : Oct => s.xs) hx)
      have h4 := (h.secs.all x hx).len
      simp only [oddO, bne_iff_ne] at hb
      omega
theorem ok_of {w : World} {lo hi : Nat} {d : Dev} (h : Dev.At w lo hi d) (hc : chkE d = 0) : okV d.secv d.wv := by
  obtain ⟨h1, h2, h3, h4⟩ := chk_ok h.secs.len hc
  have hl := secv_len h
  refine ⟨by omega, by omega, fun s hs => ?_, fun x hx => ?_⟩
  · obtain ⟨y, hy, rfl⟩ := List.mem_map.1 hs
    rw [← (h.secs.all y hy).len]
    exact h3 y hy
  · obtain ⟨y, hy, rfl⟩ := List.mem_map.1 hx
    obtain ⟨h5, h6, h7⟩ := h4 y hy
    refine ⟨h5, by rw [hl]; exact h6, ?_⟩
    show y.data.xs.length = 64
    rw [← (h.waits.all y hy).data.len]
    exact h7
theorem setV_ok (kp : Nat → Bool) (W : WV) (S : SV) (h : okV S W) : ∀ k, (setV kp W S k).length = S.length ∧ ∀ s ∈ setV kp W S k, s.length = 64
  | 0 => ⟨rfl, h.secs⟩
  | k + 1 => by
    obtain ⟨h1, h2⟩ := setV_ok kp W S h k
    unfold setV
    cases hx : W[k]? with
    | none => exact ⟨h1, h2⟩
    | some x =>
      simp only
      cases kp k
      · exact ⟨h1, h2⟩
      · simp only [if_true, List.length_set]
        refine ⟨h1, fun s hs => ?_⟩
        rcases List.mem_or_eq_of_mem_set hs with h' | rfl
        · exact h2 s h'
        · exact (h.waits x (List.mem_of_getElem? hx)).2.2
theorem set_ok (kp : Nat → Bool) {W : WV} {S : SV} (h : okV S W) (k : Nat) : okV (setV kp W S k) [] := by
  obtain ⟨h1, h2⟩ := setV_ok kp W S h k
  exact ⟨by rw [h1]; exact h.lo, by rw [h1]; exact h.hi, h2, fun x hx => by simp at hx⟩
theorem step_ok {W : WV} {S : SV} (h : okV S W) {a : Ac} (ha : a.flush = true ∨ (0 ≤ a.pos ∧ a.pos < (S.length : Int) ∧ a.data.xs.length = 64)) : okV (stepV (S, W) a).1 (stepV (S, W) a).2 ∧ (stepV (S, W) a).1.length = S.length := by
  unfold stepV
  by_cases hf : a.flush = true
  · rw [if_pos hf]
    exact ⟨set_ok _ h _, (setV_ok _ _ _ h _).1⟩
  · rw [if_neg hf]
    refine ⟨⟨h.lo, h.hi, h.secs, fun x hx => ?_⟩, rfl⟩
    rcases List.mem_append.1 hx with h' | h'
    · exact h.waits x h'
    · simp only [List.mem_singleton] at h'
      subst h'
      rcases ha with ha | ha
      · exact absurd ha hf
      · exact ha
theorem do_ok : ∀ (l : List Ac) {W : WV} {S : SV} (h : okV S W) (ha : ∀ a ∈ l, a.flush = true ∨ (0 ≤ a.pos ∧ a.pos < (S.length : Int) ∧ a.data.xs.length = 64)), okV (doV l (S, W)).1 (doV l (S, W)).2 ∧ (doV l (S, W)).1.length = S.length
  | [], W, S, h, _ => ⟨h, rfl⟩
  | a :: l, W, S, h, ha => by
    obtain ⟨h1, h2⟩ := step_ok h (ha a (by simp))
    have := do_ok l h1 (fun b hb => by rw [h2]; exact ha b (by simp [hb]))
    rw [h2] at this
    exact this
theorem new_ok (n : Nat) (h0 : 2 ≤ n) (h1 : n ≤ 8192) : okV (List.replicate n (zeros 64)) [] :=
  ⟨by simpa using h0, by simpa using h1, fun s hs => by obtain ⟨_, rfl⟩ := List.mem_replicate.1 hs; simp [zeros], fun x hx => by simp at hx⟩
/-- a device's answer -/
def DevR (w : World) (S : SV) (W : WV) (e : Ending) (w' : World) : Prop := ∃ d : Dev, e = .returned (.tuple #[.agg d.cells.toArray, .int .i64 0]) ∧ d.secv = S ∧ d.wv = W ∧ Dev.At w' w.heap.size w'.heap.size d
theorem new_abs (w : World) (n : Nat) (h0 : 2 ≤ n) (h1 : n ≤ 8192) : Calls Try.prog 9 #[.int .i64 n] w fun e w' => DevR w (List.replicate n (zeros 64)) [] e w' ∧ Ext w w' :=
  (new_yes w n h0 h1).mono fun e w' ⟨⟨d, h2, h3, h4, h5⟩, hx⟩ => ⟨⟨d, h2, h3, by rw [Dev.wv, h4]; rfl, h5⟩, hx⟩
theorem fault_of {n : Nat} {a : Ac} (ha : a.flush = true ∨ (0 ≤ a.pos ∧ a.pos < (n : Int) ∧ a.data.n = 64)) : faultE n a = 0 := by
  unfold faultE
  by_cases hf : a.flush = true
  · rw [if_pos hf]
  · rcases ha with ha | ⟨h1, h2, h3⟩
    · exact absurd ha hf
    · rw [if_neg hf, if_neg (by omega), if_pos h3]
theorem do_abs (d : Dev) (w : World) (h : Dev.At w 0 w.heap.size d) (ho : okV d.secv d.wv) (A : Option Addr) (n c : Nat) (l : List Ac) (hl : Acs w A n c l) (ha : ∀ a ∈ l, a.flush = true ∨ (0 ≤ a.pos ∧ a.pos < (d.secv.length : Int) ∧ a.data.xs.length = 64))
    (h3 : (d.wv.length + n) * 32 ≤ 140737488355328) :
    Calls Try.prog 11 #[.agg d.cells.toArray, .slice A n c] w fun e w' => DevR w (doV l (d.secv, d.wv)).1 (doV l (d.secv, d.wv)).2 e w' ∧ Ext w w' :=
  (do_yes d w h (chk_of h ho) A n c l hl (fun a haa => fault_of (by
    rcases ha a haa with h' | ⟨h1, h2, h4⟩
    · exact .inl h'
    · exact .inr ⟨h1, by rw [← secv_len h]; exact h2, by rw [(hl.all a haa).data.len]; exact h4⟩)) (by rw [← wv_len h]; exact h3)).mono fun e w' ⟨⟨d', e1, e2, _, e4⟩, hx⟩ => ⟨⟨d', e1, by rw [← e2], by rw [← e2], e4⟩, hx⟩
theorem crash_abs (d : Dev) (w : World) (h : Dev.At w 0 w.heap.size d) (ho : okV d.secv d.wv) (A : Option Addr) (n c : Nat) (ks : List Bool) (hk : Ks w A n c ks) (h3 : d.wv.length * 32 ≤ 140737488355328) :
    Calls Try.prog 13 #[.agg d.cells.toArray, .slice A n c] w fun e w' => DevR w (setV (keepB ks) d.wv d.secv d.wv.length) [] e w' ∧ Ext w w' :=
  (crash_yes d w h (chk_of h ho) (by rw [← wv_len h]; exact h3) A n c ks hk).mono fun e w' ⟨⟨d', e1, e2, e3, _, e4⟩, hx⟩ => ⟨⟨d', e1, by rw [e2, wv_len h], by rw [Dev.wv, e3]; rfl, e4⟩, hx⟩
theorem read_abs (d : Dev) (w : World) (h : Dev.At w 0 w.heap.size d) (ho : okV d.secv d.wv) (k : Nat) (hk : k < d.secv.length) :
    Calls Try.prog 14 #[.agg d.cells.toArray, .int .i64 (k : Int)] w fun e w' => (∃ s : Oct, e = .returned (.tuple #[s.val, .int .i64 0]) ∧ s.xs = readV d.secv d.wv k ∧ Oct.Own w' w.heap.size s) ∧ Ext w w' :=
  read_yes d w h (chk_of h ho) k (by rw [← secv_len h]; exact hk)
theorem readV_len {S : SV} {W : WV} (h : okV S W) {k : Nat} (hk : k < S.length) : (readV S W k).length = 64 := by
  unfold readV
  cases hf : W.reverse.find? (fun x => x.1 == (k : Int)) with
  | none => simp only [List.getD, List.getElem?_eq_getElem hk, Option.getD_some]; exact h.secs _ (List.getElem_mem _)
  | some x => exact (h.waits x (by have := List.mem_of_find?_eq_some hf; simpa using this)).2.2
end Go.Proofs.Ythjpjhcbefhpbaa
