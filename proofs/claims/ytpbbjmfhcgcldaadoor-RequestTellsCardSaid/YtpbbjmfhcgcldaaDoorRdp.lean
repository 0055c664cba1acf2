/- Texts as octets and back, in plain Lean: no program is in sight. -/
import Derived.Test.YtpbbjmfhcgcldaaDoorWrite
namespace Go.Proofs.YtpbbjmfhcgcldaaDoor

/-- the rest of a reading: so many texts are still to come -/
def rl : Nat → List UInt8 → List ByteArray → Int × List ByteArray
  | 0, b, out => if 0 < b.length then (9, []) else (0, out)
  | n + 1, b, out => if b.length < 3 then (8, []) else if 65536 < val (b.take 3) then (5, []) else if (b.drop 3).length < val (b.take 3) then (8, []) else
      rl n ((b.drop 3).drop (val (b.take 3))) (out ++ [⟨((b.drop 3).take (val (b.take 3))).toArray⟩])
/-- octets as texts -/
def rd (b : List UInt8) : Int × List ByteArray := if b.length < 2 then (8, []) else if 1024 < val (b.take 2) then (3, []) else rl (val (b.take 2)) (b.drop 2) []

theorem val_puts_small (n m : Nat) (h : n < 256 ^ m) : val (puts n m) = n := by
  have h1 := val_puts n m
  have h2 : ((n : Int) % (256 : Int) ^ m) = ((n % 256 ^ m : Nat) : Int) := by simp
  rw [h2, Nat.mod_eq_of_lt h] at h1
  omega
theorem bt_nat (a : Nat) (c : UInt8) : bt ((a * 256 + c.toNat : Nat) : Int) 0 = c := by
  have h := bt_zero ((a * 256 + c.toNat : Nat) : Int)
  have hc : c.toNat < 256 := c.toNat_lt
  apply UInt8.toNat_inj.1
  omega
theorem puts_val (l : List UInt8) : puts (val l) l.length = l := by
  suffices h : ∀ (n : Nat) (l : List UInt8), l.length = n → puts (val l) n = l from h _ l rfl
  intro n
  induction n with
  | zero =>
    intro l hl
    rw [List.eq_nil_of_length_eq_zero hl]
    rfl
  | succ n ih =>
    intro l hl
    have hne : l ≠ [] := fun e => by rw [e] at hl; cases hl
    obtain ⟨l', c, rfl⟩ : ∃ l' c, l = l' ++ [c] := ⟨l.dropLast, l.getLast hne, (List.dropLast_concat_getLast hne).symm⟩
    have hl' : l'.length = n := by simpa using hl
    rw [puts_succ, val_snoc, bt_nat]
    congr 1
    have hc : c.toNat < 256 := c.toNat_lt
    have : (((val l' * 256 + c.toNat : Nat) : Int) / 256) = (val l' : Int) := by omega
    rw [this]
    exact ih l' hl'
theorem flat_one (s : ByteArray) (hs : s.size ≤ 65536) (r : List UInt8) : val ((one s ++ r).take 3) = s.size ∧ (one s ++ r).drop 3 = s.data.toList ++ r := by
  have h3 : (puts s.size 3).length = 3 := puts_length _ _
  constructor
  · rw [one, List.append_assoc, List.take_append_of_le_length (by omega), List.take_of_length_le (by omega)]
    exact val_puts_small _ _ (by omega)
  · rw [one, List.append_assoc, List.drop_append_of_le_length (by omega), List.drop_of_length_le (by omega)]
    rfl
theorem one_len (s : ByteArray) : (one s).length = 3 + s.size := by rw [one, List.length_append, puts_length, len_data]
theorem rl_flat (l : List ByteArray) (hl : ∀ s ∈ l, s.size ≤ 65536) (r : List UInt8) (out : List ByteArray) : rl l.length (l.flatMap one ++ r) out = if 0 < r.length then (9, []) else (0, out ++ l) := by
  induction l generalizing out with
  | nil => simp [rl]
  | cons s l ih =>
    have hs := hl s (by simp)
    obtain ⟨h1, h2⟩ := flat_one s hs (l.flatMap one ++ r)
    rw [List.flatMap_cons, List.append_assoc, List.length_cons, rl, h1, h2]
    have hn : ¬ (one s ++ (l.flatMap one ++ r)).length < 3 := by rw [List.length_append, one_len]; omega
    have hd : ¬ (s.data.toList ++ (l.flatMap one ++ r)).length < s.size := by rw [List.length_append, len_data]; omega
    rw [if_neg hn, if_neg (by omega), if_neg hd]
    have e1 : (s.data.toList ++ (l.flatMap one ++ r)).drop s.size = l.flatMap one ++ r := by rw [List.drop_append_of_le_length (by rw [len_data]; omega), List.drop_of_length_le (by rw [len_data]; omega)]; rfl
    have e2 : (s.data.toList ++ (l.flatMap one ++ r)).take s.size = s.data.toList := by rw [List.take_append_of_le_length (by rw [len_data]; omega), List.take_of_length_le (by rw [len_data]; omega)]
    rw [e1, e2, ih (fun s h => hl s (by simp [h]))]
    have e3 : (⟨s.data.toList.toArray⟩ : ByteArray) = s := by simp
    rw [e3, List.append_assoc]
    rfl
theorem rl_cut (l : List ByteArray) (hl : ∀ s ∈ l, s.size ≤ 65536) (k : Nat) (hk : k < (l.flatMap one).length) (out : List ByteArray) : rl l.length ((l.flatMap one).take k) out = (8, []) := by
  induction l generalizing k out with
  | nil => simp at hk
  | cons s l ih =>
    have hs := hl s (by simp)
    rw [List.flatMap_cons, List.length_append, one_len] at hk
    rw [List.flatMap_cons, List.length_cons, rl]
    by_cases h3 : k < 3
    · rw [if_pos (by rw [List.length_take]; omega)]
    · have hlen : ((one s ++ l.flatMap one).take k).length = k := by rw [List.length_take, List.length_append, one_len]; omega
      obtain ⟨h1, h2⟩ := flat_one s hs (l.flatMap one)
      have e1 : ((one s ++ l.flatMap one).take k).take 3 = (one s ++ l.flatMap one).take 3 := by rw [List.take_take, Nat.min_eq_left (by omega)]
      have e2 : ((one s ++ l.flatMap one).take k).drop 3 = (s.data.toList ++ l.flatMap one).take (k - 3) := by rw [List.drop_take, h2]
      rw [if_neg (by omega), e1, h1, if_neg (by omega), e2]
      by_cases h4 : k - 3 < s.size
      · rw [if_pos (by rw [List.length_take]; omega)]
      · have hl2 : ((s.data.toList ++ l.flatMap one).take (k - 3)).length = k - 3 := by rw [List.length_take, List.length_append, len_data]; omega
        rw [if_neg (by omega)]
        have e3 : ((s.data.toList ++ l.flatMap one).take (k - 3)).drop s.size = (l.flatMap one).take (k - 3 - s.size) := by
          rw [List.drop_take, List.drop_append_of_le_length (by rw [len_data]; omega), List.drop_of_length_le (by rw [len_data]; omega)]
          rfl
        rw [e3]
        exact ih (fun s h => hl s (by simp [h])) _ (by omega) _
theorem rl_back (n : Nat) (b : List UInt8) (out m : List ByteArray) (h : rl n b out = (0, m)) : ∃ ms : List ByteArray, m = out ++ ms ∧ ms.length = n ∧ b = ms.flatMap one ∧ ∀ s ∈ ms, s.size ≤ 65536 := by
  induction n generalizing b out with
  | zero =>
    unfold rl at h
    by_cases hb : 0 < b.length
    · rw [if_pos hb] at h
      cases h
    · rw [if_neg hb] at h
      cases h
      exact ⟨[], by simp, rfl, by simpa using hb, by simp⟩
  | succ n ih =>
    unfold rl at h
    by_cases h3 : b.length < 3
    · rw [if_pos h3] at h; cases h
    · rw [if_neg h3] at h
      by_cases h4 : 65536 < val (b.take 3)
      · rw [if_pos h4] at h; cases h
      · rw [if_neg h4] at h
        by_cases h5 : (b.drop 3).length < val (b.take 3)
        · rw [if_pos h5] at h; cases h
        · rw [if_neg h5] at h
          obtain ⟨ms, e1, e2, e3, e4⟩ := ih _ _ h
          have hsz : (⟨((b.drop 3).take (val (b.take 3))).toArray⟩ : ByteArray).size = val (b.take 3) := by
            show ((b.drop 3).take (val (b.take 3))).toArray.size = _
            rw [List.size_toArray, List.length_take]
            omega
          refine ⟨⟨((b.drop 3).take (val (b.take 3))).toArray⟩ :: ms, by rw [e1]; simp, by simp [e2], ?_, ?_⟩
          · rw [List.flatMap_cons, ← e3, one, hsz]
            have h6 : puts (val (b.take 3)) 3 = b.take 3 := by
              have := puts_val (b.take 3)
              rwa [show (b.take 3).length = 3 from by rw [List.length_take]; omega] at this
            rw [h6]
            show b = b.take 3 ++ (b.drop 3).take (val (b.take 3)) ++ (b.drop 3).drop (val (b.take 3))
            rw [List.append_assoc, List.take_append_drop, List.take_append_drop]
          · intro s hs
            rcases List.mem_cons.1 hs with rfl | hs
            · rw [hsz]; omega
            · exact e4 s hs
theorem rl_none (n : Nat) (b : List UInt8) (out : List ByteArray) (h : (rl n b out).1 ≠ 0) : (rl n b out).2 = [] := by
  induction n generalizing b out with
  | zero =>
    rw [rl] at h ⊢
    by_cases hb : 0 < b.length
    · rw [if_pos hb]
    · rw [if_neg hb] at h
      exact absurd rfl h
  | succ n ih =>
    rw [rl] at h ⊢
    by_cases h3 : b.length < 3
    · rw [if_pos h3]
    · rw [if_neg h3] at h ⊢
      by_cases h4 : 65536 < val (b.take 3)
      · rw [if_pos h4]
      · rw [if_neg h4] at h ⊢
        by_cases h5 : (b.drop 3).length < val (b.take 3)
        · rw [if_pos h5]
        · rw [if_neg h5] at h ⊢
          exact ih _ _ h

theorem any_long (l : List ByteArray) : l.any longB = false ↔ ∀ s ∈ l, s.size ≤ 65536 := by
  rw [List.any_eq_false]
  constructor
  · intro h s hs
    have := h s hs
    simp only [longB, decide_eq_true_eq] at this
    omega
  · intro h s hs
    have := h s hs
    simp only [longB, decide_eq_true_eq]
    omega
theorem wE_zero (l : List ByteArray) : wE l = 0 ↔ l.length ≤ 1024 ∧ ∀ s ∈ l, s.size ≤ 65536 := by
  rw [← any_long, wE]
  by_cases h1 : 1024 < l.length
  · rw [if_pos h1]
    constructor
    · intro h; omega
    · intro h; omega
  · rw [if_neg h1]
    cases h2 : l.any longB
    · simp; omega
    · simp
theorem flat_head (l : List ByteArray) (hl : l.length ≤ 1024) (r : List UInt8) : ¬ (flat l ++ r).length < 2 ∧ val ((flat l ++ r).take 2) = l.length ∧ (flat l ++ r).drop 2 = l.flatMap one ++ r := by
  have h2 : (puts l.length 2).length = 2 := puts_length _ _
  refine ⟨?_, ?_, ?_⟩
  · rw [flat, List.length_append, List.length_append]; omega
  · rw [flat, List.append_assoc, List.take_append_of_le_length (by omega), List.take_of_length_le (by omega)]
    exact val_puts_small _ _ (by omega)
  · rw [flat, List.append_assoc, List.drop_append_of_le_length (by omega), List.drop_of_length_le (by omega)]
    rfl
/-- texts come back; with octets behind them they are none -/
theorem rd_flat (l : List ByteArray) (h : wE l = 0) (r : List UInt8) : rd (wB l ++ r) = if 0 < r.length then (9, []) else (0, l) := by
  obtain ⟨h1, h2⟩ := (wE_zero l).1 h
  obtain ⟨a, b, c⟩ := flat_head l h1 r
  rw [wB, if_pos h, rd, if_neg a, b, c, if_neg (by omega), rl_flat l h2 r []]
  rfl
/-- a beginning ends too early -/
theorem rd_cut (l : List ByteArray) (h : wE l = 0) (k : Nat) (hk : k < (wB l).length) : rd ((wB l).take k) = (8, []) := by
  obtain ⟨h1, h2⟩ := (wE_zero l).1 h
  obtain ⟨a, b, c⟩ := flat_head l h1 []
  rw [List.append_nil] at a b c
  rw [wB, if_pos h] at hk ⊢
  rw [rd]
  by_cases h3 : k < 2
  · rw [if_pos (by rw [List.length_take]; omega)]
  · rw [if_neg (by rw [List.length_take]; omega), List.take_take, Nat.min_eq_left (by omega), b, if_neg (by omega), List.drop_take, c, List.append_nil]
    refine rl_cut l h2 _ ?_ []
    have : (flat l).length = 2 + (l.flatMap one).length := by rw [flat, List.length_append, puts_length]
    omega
/-- octets come back -/
theorem rd_back (b : List UInt8) (m : List ByteArray) (h : rd b = (0, m)) : wE m = 0 ∧ wB m = b := by
  unfold rd at h
  by_cases h2 : b.length < 2
  · rw [if_pos h2] at h; cases h
  · rw [if_neg h2] at h
    by_cases h3 : 1024 < val (b.take 2)
    · rw [if_pos h3] at h; cases h
    · rw [if_neg h3] at h
      obtain ⟨ms, e1, e2, e3, e4⟩ := rl_back _ _ _ _ h
      rw [List.nil_append] at e1
      subst e1
      have hw : wE m = 0 := (wE_zero m).2 ⟨by omega, e4⟩
      refine ⟨hw, ?_⟩
      rw [wB, if_pos hw, flat, ← e3, e2]
      have h6 : puts (val (b.take 2)) 2 = b.take 2 := by
        have := puts_val (b.take 2)
        rwa [show (b.take 2).length = 2 from by rw [List.length_take]; omega] at this
      rw [h6, List.take_append_drop]
theorem rd_none (b : List UInt8) (h : (rd b).1 ≠ 0) : (rd b).2 = [] := by
  rw [rd] at h ⊢
  by_cases h2 : b.length < 2
  · rw [if_pos h2]
  · rw [if_neg h2] at h ⊢
    by_cases h3 : 1024 < val (b.take 2)
    · rw [if_pos h3]
    · rw [if_neg h3] at h ⊢
      exact rl_none _ _ _ h
end Go.Proofs.YtpbbjmfhcgcldaaDoor
