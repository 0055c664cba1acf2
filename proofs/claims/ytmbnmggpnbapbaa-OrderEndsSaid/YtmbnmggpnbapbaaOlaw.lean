/- The plain law of OrderWhole and OrderEnds: lists of records, no program. -/
import Derived.Test.YtmbnmggpnbapbaaWhole
namespace Go.Proofs.Ytmbnmggpnbapbaa

theorem step_err {s n : Int} {x : Rec} : (stepR s n x).err = 0 ↔ badS s n = false ∧ recE x = 0 ∧ aftB s n x = true := by
  unfold stepR
  by_cases h1 : badS s n = true
  · simp [h1]
  · have h1' : badS s n = false := by simpa using h1
    rw [if_neg h1]
    by_cases h2 : recE x ≠ 0
    · rw [if_pos h2]; simp [h2]
    · have h2' : recE x = 0 := by simpa using h2
      rw [if_neg h2]
      cases h3 : aftB s n x <;> simp [h1', h2']
theorem step_st {s n : Int} {x : Rec} (h : (stepR s n x).err = 0) : (stepR s n x).seen = aftS x ∧ (stepR s n x).next = aftN n x := by
  obtain ⟨h1, h2, h3⟩ := step_err.1 h
  unfold stepR
  rw [if_neg (by simp [h1]), if_neg (by simp [h2]), if_pos h3]
  exact ⟨rfl, rfl⟩
theorem run_ok {s n : Int} {x : Rec} {xs : List Rec} (h1 : badS s n = false) (h2 : recE x = 0) (h3 : aftB s n x = true) : runS (x :: xs) s n = runS xs (aftS x) (aftN n x) := by
  have h := step_err.2 ⟨h1, h2, h3⟩
  obtain ⟨e1, e2⟩ := step_st h
  rw [runS_cons, if_pos h, e1, e2]
theorem run_bad {s n : Int} {x : Rec} {xs : List Rec} (h : recE x ≠ 0 ∨ aftB s n x = false) : runS (x :: xs) s n = none := by
  rw [runS_cons, if_neg]
  intro he
  obtain ⟨_, h2, h3⟩ := step_err.1 he
  rcases h with h | h
  · exact h h2
  · rw [h] at h3; cases h3
theorem run_end {n : Int} : ∀ {xs : List Rec}, xs ≠ [] → runS xs 2 n = none
  | [], h => absurd rfl h
  | x :: xs, _ => run_bad (.inr (by
      unfold aftB
      by_cases k1 : x.kind = 1
      · rw [if_pos k1]; rfl
      · rw [if_neg k1]
        by_cases k2 : x.kind = 2 ∨ x.kind = 3
        · rw [if_pos k2]; rfl
        · rw [if_neg k2]; rfl))
theorem run_last : ∀ {xs : List Rec} {n : Int} (h : runS xs 1 n = some 2), ∃ hne : xs ≠ [], (xs.getLast hne).kind = 4
  | [], _, h => by simp [runS] at h
  | x :: xs, n, h => by
    refine ⟨by simp, ?_⟩
    have he : (stepR 1 n x).err = 0 := by
      rcases Decidable.em ((stepR 1 n x).err = 0) with h' | h'
      · exact h'
      · rw [runS_cons, if_neg h'] at h; cases h
    obtain ⟨_, h2, h3⟩ := step_err.1 he
    obtain ⟨e1, e2⟩ := step_st he
    rw [runS_cons, if_pos he, e1, e2] at h
    obtain ⟨hk, _⟩ := rec_ok h2
    have k1 : x.kind ≠ 1 := fun k1 => by rw [aftB, if_pos k1] at h3; simp at h3
    by_cases k2 : x.kind = 2 ∨ x.kind = 3
    · have hs : aftS x = 1 := by rw [aftS, if_pos (by omega)]
      rw [hs] at h
      obtain ⟨hne, hl⟩ := run_last h
      rw [List.getLast_cons hne]
      exact hl
    · have hs : aftS x = 2 := by rw [aftS, if_neg (by omega)]
      rw [hs] at h
      rcases Decidable.em (xs = []) with hx | hx
      · subst hx
        show x.kind = 4
        omega
      · rw [run_end hx] at h; cases h
def kd (xs : List Rec) (k : Nat) : Int := (xs.map Rec.kind).getD k 0
theorem kd_at (xs : List Rec) (k : Nat) (h : k < xs.length) : kd xs k = xs[k].kind := by simp [kd, h]
def want0 (xs : List Rec) : Bool := decide (2 ≤ xs.length) && kd xs 0 == 1 && kd xs (xs.length - 1) == 4
def WI (xs : List Rec) (k : Nat) (want : Bool) (nx : Int) : Prop :=
  (want = false → wholeB xs = false) ∧ (want = true → 2 ≤ xs.length ∧ kd xs 0 = 1 ∧ kd xs (xs.length - 1) = 4 ∧ 0 ≤ nx ∧ nx ≤ 1024 ∧
    ((k = 0 ∧ nx = 0) ∨ (0 < k ∧ k < xs.length ∧ runS xs 0 0 = runS (xs.drop k) 1 nx) ∨ (k = xs.length ∧ runS xs 0 0 = some 2)))
theorem wi0 (xs : List Rec) : WI xs 0 (want0 xs) 0 := by
  refine ⟨fun h => ?_, fun h => ?_⟩
  · cases hw : wholeB xs
    · rfl
    · exfalso
      have hw' : runS xs 0 0 = some 2 := by simpa [wholeB] using hw
      cases xs with
      | nil => simp [runS] at hw'
      | cons x xs =>
        have he : (stepR 0 0 x).err = 0 := by
          rcases Decidable.em ((stepR 0 0 x).err = 0) with h' | h'
          · exact h'
          · rw [runS_cons, if_neg h'] at hw'; cases hw'
        obtain ⟨_, h2, h3⟩ := step_err.1 he
        obtain ⟨e1, e2⟩ := step_st he
        rw [runS_cons, if_pos he, e1, e2] at hw'
        have k1 : x.kind = 1 := by
          rcases Decidable.em (x.kind = 1) with h' | h'
          · exact h'
          · rw [aftB, if_neg h'] at h3; split at h3 <;> simp at h3
        rw [show aftS x = 1 by rw [aftS, if_pos (.inl k1)]] at hw'
        obtain ⟨hne, hl⟩ := run_last hw'
        have hlen : 0 < xs.length := List.length_pos_iff.2 hne
        have hk : kd (x :: xs) ((x :: xs).length - 1) = 4 := by
          rw [kd_at _ _ (by simp), ← hl]
          congr 1
          rw [List.getLast_eq_getElem]
          simp only [List.length_cons, Nat.add_sub_cancel]
          rw [List.getElem_cons]
          rw [dif_neg (by omega)]
        have hk0 : kd (x :: xs) 0 = 1 := by rw [kd_at _ _ (by simp)]; exact k1
        have h2' : 2 ≤ (x :: xs).length := by simp; omega
        rw [want0, hk, hk0, decide_eq_true h2'] at h
        cases h
  · simp only [want0, Bool.and_eq_true, decide_eq_true_eq, beq_iff_eq] at h
    exact ⟨h.1.1, h.1.2, h.2, by omega, by omega, .inl ⟨rfl, rfl⟩⟩
theorem bad_state {n : Int} (h0 : 0 ≤ n) (h1 : n ≤ 1024) (s : Int) (s0 : 0 ≤ s) (s1 : s ≤ 2) : badS s n = false := by simp [badS]; omega
/-- the round: a record that is none -/
theorem wi_bad {xs : List Rec} {k : Nat} {nx : Int} (h : WI xs k true nx) (hk : k < xs.length) (he : recE xs[k] ≠ 0) (nx' : Int) : WI xs (k + 1) false nx' := by
  refine ⟨fun _ => ?_, (fun h => by cases h)⟩
  obtain ⟨_, _, _, _, _, hr⟩ := h.2 rfl
  rcases hr with ⟨rfl, rfl⟩ | ⟨_, _, hr⟩ | ⟨hr, _⟩
  · have : runS xs 0 0 = none := by
      conv => lhs; rw [show xs = xs.drop 0 from rfl, List.drop_eq_getElem_cons hk]
      exact run_bad (.inl he)
    simp [wholeB, this]
  · rw [wholeB, hr, List.drop_eq_getElem_cons hk, run_bad (.inl he)]; rfl
  · omega
theorem wi_stay {xs : List Rec} {k : Nat} {nx : Int} (h : WI xs k false nx) (nx' : Int) : WI xs (k + 1) false nx' := ⟨fun _ => h.1 rfl, (fun h => by cases h)⟩
theorem wi_first {xs : List Rec} {nx : Int} (h : WI xs 0 true nx) (hk : 0 < xs.length) (he : recE xs[0] = 0) : WI xs 1 true nx := by
  refine ⟨(fun h => by cases h), fun _ => ?_⟩
  obtain ⟨h1, h2, h3, h4, h5, hr⟩ := h.2 rfl
  rcases hr with ⟨_, rfl⟩ | ⟨hr, _⟩ | ⟨hr, _⟩
  · refine ⟨h1, h2, h3, h4, h5, .inr (.inl ⟨by omega, by omega, ?_⟩)⟩
    have hk1 : xs[0].kind = 1 := by rw [← kd_at xs 0 hk]; exact h2
    conv => lhs; rw [show xs = xs.drop 0 from rfl, List.drop_eq_getElem_cons hk]
    rw [run_ok (bad_state (by omega) (by omega) 0 (by omega) (by omega)) he (by rw [aftB, if_pos hk1]; rfl), aftS, aftN, if_pos (.inl hk1), if_pos hk1]
  · omega
  · omega
theorem wi_last {xs : List Rec} {k : Nat} {nx : Int} (h : WI xs k true nx) (h0 : 0 < k) (hk : k < xs.length) (hl : k = xs.length - 1) (he : recE xs[k] = 0) : WI xs (k + 1) true nx := by
  refine ⟨(fun h => by cases h), fun _ => ?_⟩
  obtain ⟨h1, h2, h3, h4, h5, hr⟩ := h.2 rfl
  rcases hr with ⟨hr, _⟩ | ⟨_, _, hr⟩ | ⟨hr, _⟩
  · omega
  · refine ⟨h1, h2, h3, h4, h5, .inr (.inr ⟨by omega, ?_⟩)⟩
    have hk4 : xs[k].kind = 4 := by rw [← kd_at xs k hk, hl]; exact h3
    rw [hr, List.drop_eq_getElem_cons hk, run_ok (bad_state h4 h5 1 (by omega) (by omega)) he (by rw [aftB, if_neg (by omega), if_neg (by omega)]; rfl), List.drop_eq_nil_of_le (by omega), aftS, if_neg (by omega)]
    rfl
  · omega
theorem wi_mid_bad {xs : List Rec} {k : Nat} {nx : Int} (h : WI xs k true nx) (h0 : 0 < k) (hk : k < xs.length) (hl : k ≠ xs.length - 1) (he : recE xs[k] = 0)
    (hb : ¬ ((xs[k].kind = 2 ∨ xs[k].kind = 3) ∧ nx ≤ xs[k].index)) (nx' : Int) : WI xs (k + 1) false nx' := by
  refine ⟨fun _ => ?_, (fun h => by cases h)⟩
  obtain ⟨h1, h2, h3, h4, h5, hr⟩ := h.2 rfl
  rcases hr with ⟨hr, _⟩ | ⟨_, _, hr⟩ | ⟨hr, _⟩
  · omega
  · rw [wholeB, hr, List.drop_eq_getElem_cons hk]
    obtain ⟨hkk, _⟩ := rec_ok he
    by_cases ha : aftB 1 nx xs[k] = true
    · rw [run_ok (bad_state h4 h5 1 (by omega) (by omega)) he ha]
      have h23 : ¬ (xs[k].kind = 2 ∨ xs[k].kind = 3) := fun h23 => hb ⟨h23, by
        rw [aftB, if_neg (by omega), if_pos h23] at ha
        simpa using ha⟩
      have h1' : xs[k].kind ≠ 1 := fun h1' => by rw [aftB, if_pos h1'] at ha; simp at ha
      rw [aftS, if_neg (by omega), run_end]
      · rfl
      · intro hd
        have := congrArg List.length hd
        simp at this
        omega
    · rw [run_bad (.inr (by simpa using ha))]; rfl
  · omega
theorem wi_mid {xs : List Rec} {k : Nat} {nx : Int} (h : WI xs k true nx) (h0 : 0 < k) (hk : k < xs.length) (hl : k ≠ xs.length - 1) (he : recE xs[k] = 0)
    (hb : xs[k].kind = 2 ∨ xs[k].kind = 3) (hi : nx ≤ xs[k].index) : WI xs (k + 1) true (if xs[k].kind = 3 then xs[k].index + xs[k].count else xs[k].index + 1) := by
  refine ⟨(fun h => by cases h), fun _ => ?_⟩
  obtain ⟨h1, h2, h3, h4, h5, hr⟩ := h.2 rfl
  rcases hr with ⟨hr, _⟩ | ⟨_, _, hr⟩ | ⟨hr, _⟩
  · omega
  · obtain ⟨i0, i1⟩ := rec_ind he hb
    have hcnt := fun (h : xs[k].kind = 3) => rec_cnt (x := xs[k]) he h
    refine ⟨h1, h2, h3, by split <;> rename_i h3 <;> first | (have := hcnt h3; omega) | omega, by split <;> rename_i h3 <;> first | (have := hcnt h3; omega) | omega, .inr (.inl ⟨by omega, by omega, ?_⟩)⟩
    rw [hr, List.drop_eq_getElem_cons hk, run_ok (bad_state h4 h5 1 (by omega) (by omega)) he (by rw [aftB, if_neg (by omega), if_pos hb]; simpa using hi), aftS, if_pos (.inr hb), aftN, if_neg (by omega)]
    rcases hb with hb | hb
    · rw [if_pos hb, if_neg (by omega)]
    · rw [if_neg (by omega), if_pos hb, if_pos hb]
  · omega
theorem wi_end {xs : List Rec} {want : Bool} {nx : Int} (h : WI xs xs.length want nx) : wholeB xs = want := by
  cases want with
  | false => exact h.1 rfl
  | true =>
    obtain ⟨h1, _, _, _, _, hr⟩ := h.2 rfl
    rcases hr with ⟨hr, _⟩ | ⟨_, hr, _⟩ | ⟨_, hr⟩
    · omega
    · omega
    · rw [wholeB, hr]; rfl
end Go.Proofs.Ytmbnmggpnbapbaa
