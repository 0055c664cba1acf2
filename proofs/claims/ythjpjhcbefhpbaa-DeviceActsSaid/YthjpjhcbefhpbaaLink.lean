/- What stands and what is now, held in two arrays: plain laws; sixteen cells written at once. -/
import Derived.Test.YthjpjhcbefhpbaaRows2
namespace Go.Proofs.Ythjpjhcbefhpbaa
open Go.RowKit
set_option linter.unusedVariables false

theorem list16 {α : Type} : ∀ (l : List α), l.length = 16 → ∃ s0 s1 s2 s3 s4 s5 s6 s7 s8 s9 s10 s11 s12 s13 s14 s15, l = [s0, s1, s2, s3, s4, s5, s6, s7, s8, s9, s10, s11, s12, s13, s14, s15]
  | [s0, s1, s2, s3, s4, s5, s6, s7, s8, s9, s10, s11, s12, s13, s14, s15], _ => ⟨s0, s1, s2, s3, s4, s5, s6, s7, s8, s9, s10, s11, s12, s13, s14, s15, rfl⟩
  | [], h | [_], h | [_, _], h | [_, _, _], h | [_, _, _, _], h | [_, _, _, _, _], h | [_, _, _, _, _, _], h | [_, _, _, _, _, _, _], h | [_, _, _, _, _, _, _, _], h | [_, _, _, _, _, _, _, _, _], h | [_, _, _, _, _, _, _, _, _, _], h
  | [_, _, _, _, _, _, _, _, _, _, _], h | [_, _, _, _, _, _, _, _, _, _, _, _], h | [_, _, _, _, _, _, _, _, _, _, _, _, _], h | [_, _, _, _, _, _, _, _, _, _, _, _, _, _], h | [_, _, _, _, _, _, _, _, _, _, _, _, _, _, _], h => by simp at h
  | _ :: _ :: _ :: _ :: _ :: _ :: _ :: _ :: _ :: _ :: _ :: _ :: _ :: _ :: _ :: _ :: _ :: _, h => by simp at h
theorem Bx.put16 {w w' : World} {b : Nat} {u0 u1 u2 u3 u4 u5 u6 u7 u8 u9 u10 u11 u12 u13 u14 u15 v0 v1 v2 v3 v4 v5 v6 v7 v8 v9 v10 v11 v12 v13 v14 v15 : Value} (h : Bx w b [u0, u1, u2, u3, u4, u5, u6, u7, u8, u9, u10, u11, u12, u13, u14, u15]) (hw : (((((((((((((((w.setCell ⟨b, 0, none⟩ v0).setCell ⟨b, 1, none⟩ v1).setCell ⟨b, 2, none⟩ v2).setCell ⟨b, 3, none⟩ v3).setCell ⟨b, 4, none⟩ v4).setCell ⟨b, 5, none⟩ v5).setCell ⟨b, 6, none⟩ v6).setCell ⟨b, 7, none⟩ v7).setCell ⟨b, 8, none⟩ v8).setCell ⟨b, 9, none⟩ v9).setCell ⟨b, 10, none⟩ v10).setCell ⟨b, 11, none⟩ v11).setCell ⟨b, 12, none⟩ v12).setCell ⟨b, 13, none⟩ v13).setCell ⟨b, 14, none⟩ v14).setCell ⟨b, 15, none⟩ v15 = w') : Bx w' b [v0, v1, v2, v3, v4, v5, v6, v7, v8, v9, v10, v11, v12, v13, v14, v15] ∧ Keep (fun k => k ≠ b) w w' := by
  subst hw
  exact ⟨(((((((((((((((h.set 0 v0).set 1 v1).set 2 v2).set 3 v3).set 4 v4).set 5 v5).set 6 v6).set 7 v7).set 8 v8).set 9 v9).set 10 v10).set 11 v11).set 12 v12).set 13 v13).set 14 v14).set 15 v15, ((((((((((((((((Keep.refl (fun k => k ≠ b) w).setCell (p := ⟨b, 0, none⟩) (fun h => h rfl) v0).setCell (p := ⟨b, 1, none⟩) (fun h => h rfl) v1).setCell (p := ⟨b, 2, none⟩) (fun h => h rfl) v2).setCell (p := ⟨b, 3, none⟩) (fun h => h rfl) v3).setCell (p := ⟨b, 4, none⟩) (fun h => h rfl) v4).setCell (p := ⟨b, 5, none⟩) (fun h => h rfl) v5).setCell (p := ⟨b, 6, none⟩) (fun h => h rfl) v6).setCell (p := ⟨b, 7, none⟩) (fun h => h rfl) v7).setCell (p := ⟨b, 8, none⟩) (fun h => h rfl) v8).setCell (p := ⟨b, 9, none⟩) (fun h => h rfl) v9).setCell (p := ⟨b, 10, none⟩) (fun h => h rfl) v10).setCell (p := ⟨b, 11, none⟩) (fun h => h rfl) v11).setCell (p := ⟨b, 12, none⟩) (fun h => h rfl) v12).setCell (p := ⟨b, 13, none⟩) (fun h => h rfl) v13).setCell (p := ⟨b, 14, none⟩) (fun h => h rfl) v14).setCell (p := ⟨b, 15, none⟩) (fun h => h rfl) v15⟩
structure LinkV (k : Nat) (S : SV) (W : WV) (SA NA : SV) : Prop where
  ok : okV S W
  len : S.length = k
  sl : SA.length = 16
  nl : NA.length = 16
  s : ∀ i, i < k → SA[i]? = S[i]?
  n : ∀ i, i < k → NA[i]? = some (readV S W i)
theorem link0 (k : Nat) (h0 : 2 ≤ k) (h1 : k ≤ 15) : LinkV k (List.replicate k (zeros 64)) [] (List.replicate 16 (zeros 64)) (List.replicate 16 (zeros 64)) := by
  refine ⟨new_ok k h0 (by omega), by simp, by simp, by simp, fun i hi => ?_, fun i hi => ?_⟩
  · rw [List.getElem?_replicate, List.getElem?_replicate, if_pos (by omega), if_pos hi]
  · rw [List.getElem?_replicate, if_pos (by omega)]
    simp [readV, List.getD, hi]
theorem link_flush {k : Nat} {S : SV} {W : WV} {SA NA : SV} (h : LinkV k S W SA NA) : LinkV k (setV (fun _ => true) W S W.length) [] NA NA := by
  have hW : ∀ x ∈ W, 0 ≤ x.1 ∧ x.1 < (S.length : Int) := fun x hx => ⟨(h.ok.waits x hx).1, (h.ok.waits x hx).2.1⟩
  have h1 := setV_ok (fun _ => true) W S h.ok W.length
  have key : ∀ i, i < k → (setV (fun _ => true) W S W.length)[i]? = some (readV S W i) := fun i hi => by
    have := (setV_read S W hW i (by rw [h.len]; exact hi) W.length (Nat.le_refl _)).1
    rwa [List.take_of_length_le (Nat.le_refl _)] at this
  refine ⟨set_ok _ h.ok _, by rw [h1.1, h.len], h.nl, h.nl, fun i hi => by rw [key i hi, h.n i hi], fun i hi => ?_⟩
  rw [h.n i hi]
  have := key i hi
  simp [readV, List.getD, this]
theorem link_write {k : Nat} {S : SV} {W : WV} {SA NA : SV} (h : LinkV k S W SA NA) (hk : k ≤ 15) {p : Nat} {xs : List UInt8} (hp : p < k) (hx : xs.length = 64) : LinkV k S (W ++ [((p : Int), xs)]) SA (NA.set p xs) := by
  refine ⟨⟨h.ok.lo, h.ok.hi, h.ok.secs, fun x hx' => ?_⟩, h.len, h.sl, by rw [List.length_set]; exact h.nl, h.s, fun i hi => ?_⟩
  · rcases List.mem_append.1 hx' with h' | h'
    · exact h.ok.waits x h'
    · simp only [List.mem_singleton] at h'
      subst h'
      exact ⟨by simp, by rw [h.len]; simpa using hp, hx⟩
  · rw [readV_snoc, List.getElem?_set]
    by_cases e : p = i
    · subst e
      rw [if_pos rfl, if_pos (by rw [h.nl]; omega), if_pos rfl]
    · rw [if_neg e, if_neg (show ¬ ((p : Int), xs).1 = (i : Int) from fun h' => e (Int.ofNat.inj h'))]
      exact h.n i hi
def wvA (a : Ac) : Int × List UInt8 := (a.pos, a.data.xs)
end Go.Proofs.Ythjpjhcbefhpbaa
