/- Requests and replies as octets and back: plain laws. -/
import Derived.Test.YtpbbjmfhcgcldaaDoorPsr
namespace Go.Proofs.YtpbbjmfhcgcldaaDoor
open Go.RowKit

theorem num8_size (z : Int) : (num8 z).size = 8 := by
  have : (num8 z).data.toList = puts z 8 := rfl
  rw [← len_data, this, puts_length]
theorem num8_amt {z : Int} (h : oddI z = false) : amtS (num8 z) = true ∧ fV (num8 z) = z := by
  obtain ⟨h0, h1⟩ := oddI_no h
  obtain ⟨h2, h3⟩ := num_back z (by omega) (by omega)
  have e : (num8 z).data.toList = puts z 8 := rfl
  have hE : fE (num8 z) = 0 := by
    rw [fE, num8_size, if_neg (by omega), if_neg (by omega), e, h2, if_neg (by omega)]
  have hV : fV (num8 z) = z := by
    rw [fV, num8_size, if_neg (by omega), if_neg (by omega), e]
    exact h3 (by omega)
  refine ⟨?_, hV⟩
  rw [amtS, hE, hV]
  simp
  omega
theorem amt_back {s : ByteArray} (h : amtS s = true) : num8 (fV s) = s ∧ oddI (fV s) = false := by
  simp only [amtS, Bool.and_eq_true, beq_iff_eq, decide_eq_true_eq] at h
  obtain ⟨hE, hV⟩ := h
  have hb := fV_i64 s
  refine ⟨?_, oddI_of hb.1 hV⟩
  unfold fE at hE
  have h8 : s.size = 8 := by
    split at hE
    · cases hE
    · split at hE
      · cases hE
      · omega
  rw [if_neg (by omega), if_neg (by omega)] at hE
  have hl : s.data.toList.length = 8 := by rw [len_data]; exact h8
  have hv : fV s = (val s.data.toList : Int) := by
    rw [fV, if_neg (by omega), if_neg (by omega)]
    unfold numV
    unfold numE at hE
    rw [if_neg (by omega), if_neg (by omega)] at hE ⊢
    split at hE
    · cases hE
    · rename_i hn
      rw [if_neg hn]
  rw [hv]
  have hp := puts_val s.data.toList
  rw [hl] at hp
  show (⟨(puts (val s.data.toList) 8).toArray⟩ : ByteArray) = s
  rw [hp]
theorem octE_zero {zs : List Int} {l : List ByteArray} (h : octE zs l = 0) : zs.any oddI = false ∧ wE l = 0 ∧ octB zs l = wB l := by
  unfold octE octB at *
  cases hz : zs.any oddI
  · rw [hz] at h
    exact ⟨rfl, by simpa using h, by simp⟩
  · rw [hz] at h
    simp at h
theorem rd_wB (l : List ByteArray) (h : wE l = 0) : rd (wB l) = (0, l) := by
  have := rd_flat l h []
  simpa using this
theorem req_back (r : Req) (h : octE r.ints r.texts = 0) : PsV (octB r.ints r.texts) = some r := by
  obtain ⟨h1, h2, h3⟩ := octE_zero h
  rw [h3, PsV, rd_wB _ h2]
  simp only [Req.ints, List.any_cons, List.any_nil, Bool.or_false, Bool.or_eq_false_iff] at h1
  obtain ⟨a1, b1⟩ := num8_amt h1.1
  obtain ⟨a2, b2⟩ := num8_amt h1.2.1
  obtain ⟨a3, b3⟩ := num8_amt h1.2.2
  simp only [if_true, Req.texts, reqOf, List.all_cons, List.all_nil, a1, a2, a3, b1, b2, b3, Bool.and_self]
theorem rep_back (r : Rep) (h : octE r.ints r.texts = 0) : RdV (octB r.ints r.texts) = some r.abs := by
  obtain ⟨h1, h2, h3⟩ := octE_zero h
  rw [h3, RdV, rd_wB _ h2]
  simp only [Rep.ints, List.any_cons, List.any_nil, Bool.or_false, Bool.or_eq_false_iff] at h1
  obtain ⟨a1, b1⟩ := num8_amt h1.1
  obtain ⟨a2, b2⟩ := num8_amt h1.2
  simp only [if_true, Rep.texts, List.cons_append, List.nil_append, repOf, List.all_cons, List.all_nil, a1, a2, b1, b2, Bool.and_self, Rep.abs]
theorem I64_of {s : ByteArray} : I64 (fV s) := by
  have := fV_i64 s
  exact ⟨by omega, by omega⟩
theorem req_octets (b : List UInt8) (r : Req) (h : PsV b = some r) : octE r.ints r.texts = 0 ∧ octB r.ints r.texts = b ∧ r.Ok := by
  unfold PsV at h
  by_cases h0 : (rd b).1 = 0
  · rw [if_pos h0] at h
    obtain ⟨hw, hb⟩ := rd_back b (rd b).2 (by rw [← h0])
    generalize (rd b).2 = l at *
    unfold reqOf at h
    split at h
    · split at h
      · rename_i hall
        simp only [List.all_cons, List.all_nil, Bool.and_true, Bool.and_eq_true] at hall
        injection h with h
        subst h
        obtain ⟨a1, b1⟩ := amt_back hall.1
        obtain ⟨a2, b2⟩ := amt_back hall.2.1
        obtain ⟨a3, b3⟩ := amt_back hall.2.2
        simp only [octE, octB, Req.ints, Req.texts, List.any_cons, List.any_nil, b1, b2, b3, a1, a2, a3, Bool.or_self, Bool.false_eq_true, if_false]
        exact ⟨hw, hb, ⟨I64_of, I64_of, I64_of⟩⟩
      · cases h
    · cases h
  · rw [if_neg h0] at h
    cases h
theorem rep_octets (b : List UInt8) (r : Rep) (h : RdV b = some r.abs) : octE r.ints r.texts = 0 ∧ octB r.ints r.texts = b := by
  unfold RdV at h
  by_cases h0 : (rd b).1 = 0
  · rw [if_pos h0] at h
    obtain ⟨hw, hb⟩ := rd_back b (rd b).2 (by rw [← h0])
    generalize (rd b).2 = l at *
    unfold repOf at h
    split at h
    · split at h
      · rename_i hall
        simp only [List.all_cons, List.all_nil, Bool.and_true, Bool.and_eq_true] at hall
        injection h with h
        simp only [Rep.abs, Prod.mk.injEq] at h
        obtain ⟨e1, e2, e3, e4⟩ := h
        obtain ⟨a1, b1⟩ := amt_back hall.1
        obtain ⟨a2, b2⟩ := amt_back hall.2
        simp only [octE, octB, Rep.ints, Rep.texts, List.any_cons, List.any_nil, ← e1, ← e2, ← e3, ← e4, b1, b2, a1, a2, Bool.or_self, Bool.false_eq_true, if_false]
        exact ⟨hw, hb⟩
      · cases h
    · cases h
  · rw [if_neg h0] at h
    cases h
end Go.Proofs.YtpbbjmfhcgcldaaDoor
