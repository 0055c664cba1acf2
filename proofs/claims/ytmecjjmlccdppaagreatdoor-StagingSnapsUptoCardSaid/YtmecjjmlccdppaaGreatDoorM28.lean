/- The texts Ovl in one file. -/
import Derived.Test.YtmecjjmlccdppaaGreatDoorM17
import Derived.Sort.Walk0
/- Lists of properties laid over one another: the plain law. No program. -/
namespace Go.Proofs.YtmecjjmlccdppaaGreatDoor
open Go.RowKit
set_option linter.unusedVariables false

theorem lessB_iff (a b : ByteArray) : lessB a b = true ↔ a.toList < b.toList := by rw [lessB, Go.Proofs.bytesLess_eq, decide_eq_true_eq]
theorem lessB_not (a b : ByteArray) : lessB a b = false ↔ b.toList ≤ a.toList := by rw [lessB, Go.Proofs.bytesLess_eq, decide_eq_false_iff_not, List.not_lt]
def sameN (p y : Prp) : Bool := y.name.toList == p.name.toList
def insP (p : Prp) : List Prp → List Prp
  | [] => [p]
  | y :: r => if lessB p.name y.name then p :: y :: r else y :: insP p r
def putP (l : List Prp) (p : Prp) : List Prp := insP p (l.filter fun y => !sameN p y)
def overP (ps : List Prp) : List Prp := ps.foldl putP []
def SortP (l : List Prp) : Prop := l.Pairwise fun x y => lessB x.name y.name = true
theorem mem_insP {p y : Prp} : ∀ {l : List Prp}, y ∈ insP p l → y = p ∨ y ∈ l
  | [], h => .inl (by simpa [insP] using h)
  | z :: r, h => by
    unfold insP at h
    split at h
    · simpa using h
    · rcases List.mem_cons.1 h with h | h
      · exact .inr (by simp [h])
      · rcases mem_insP h with h | h
        · exact .inl h
        · exact .inr (by simp [h])
theorem insP_sorted (p : Prp) : ∀ (l : List Prp), SortP l → (∀ y ∈ l, y.name.toList ≠ p.name.toList) → SortP (insP p l)
  | [], _, _ => by simp [insP, SortP]
  | z :: r, h, hn => by
    unfold insP
    have h' := List.pairwise_cons.1 h
    split
    · rename_i hl
      refine List.pairwise_cons.2 ⟨fun y hy => ?_, h⟩
      rcases List.mem_cons.1 hy with rfl | hy
      · exact hl
      · have h2 := h'.1 y hy
        rw [lessB_iff] at h2 hl ⊢
        exact List.lt_trans hl h2
    · rename_i hl
      refine List.pairwise_cons.2 ⟨fun y hy => ?_, insP_sorted p r h'.2 fun y hy => hn y (by simp [hy])⟩
      rcases mem_insP hy with rfl | hy
      · rw [Bool.not_eq_true, lessB_not] at hl
        rw [lessB_iff]
        exact Std.lt_of_le_of_ne hl (hn z (by simp))
      · exact h'.1 y hy
theorem SortP.filter {l : List Prp} (h : SortP l) (q : Prp → Bool) : SortP (l.filter q) := List.Pairwise.sublist List.filter_sublist h
theorem putP_sorted {l : List Prp} (h : SortP l) (p : Prp) : SortP (putP l p) := insP_sorted p _ (h.filter _) fun y hy => by
  have := (List.mem_filter.1 hy).2
  simpa [sameN] using this
theorem fold_sorted : ∀ (ps l : List Prp), SortP l → SortP (ps.foldl putP l)
  | [], l, h => h
  | p :: ps, l, h => fold_sorted ps _ (putP_sorted h p)
theorem overP_sorted (ps : List Prp) : SortP (overP ps) := fold_sorted ps [] List.Pairwise.nil
theorem insP_len (p : Prp) : ∀ l : List Prp, (insP p l).length = l.length + 1
  | [] => rfl
  | z :: r => by
    unfold insP
    split
    · rfl
    · simp [insP_len p r]
theorem putP_len (l : List Prp) (p : Prp) : (putP l p).length ≤ l.length + 1 := by
  rw [putP, insP_len]
  have := List.length_filter_le (fun y => !sameN p y) l
  omega
theorem fold_len : ∀ (ps l : List Prp), (ps.foldl putP l).length ≤ l.length + ps.length
  | [], l => Nat.le_refl _
  | p :: ps, l => by
    have h1 := fold_len ps (putP l p)
    have h2 := putP_len l p
    simp only [List.foldl_cons, List.length_cons]
    omega
theorem overP_len (ps : List Prp) : (overP ps).length ≤ ps.length := by
  have := fold_len ps []
  rw [List.length_nil, Nat.zero_add] at this
  exact this
theorem mem_putP {p y : Prp} {l : List Prp} (h : y ∈ putP l p) : y = p ∨ y ∈ l := by
  rcases mem_insP h with h | h
  · exact .inl h
  · exact .inr (List.mem_filter.1 h).1
theorem mem_fold {y : Prp} : ∀ {ps l : List Prp}, y ∈ ps.foldl putP l → y ∈ l ∨ y ∈ ps
  | [], l, h => .inl h
  | p :: ps, l, h => by
    rcases mem_fold (ps := ps) h with h | h
    · rcases mem_putP h with h | h
      · exact .inr (by simp [h])
      · exact .inl h
    · exact .inr (by simp [h])
theorem mem_overP {y : Prp} {ps : List Prp} (h : y ∈ overP ps) : y ∈ ps := by
  rcases mem_fold h with h | h
  · cases h
  · exact h
theorem overP_snoc (ps : List Prp) (p : Prp) : overP (ps ++ [p]) = putP (overP ps) p := by simp [overP, List.foldl_append]
/-- the reference's way -/
def rputP (p : Prp) : List Prp → List Prp
  | [] => [p]
  | y :: r => if lessB y.name p.name then y :: rputP p r else p :: (y :: r).filter fun y => !sameN p y
theorem insP_front (p : Prp) (l : List Prp) (h : ∀ y ∈ l, lessB p.name y.name = true) : insP p l = p :: l := by
  cases l with
  | nil => rfl
  | cons y r => rw [insP, if_pos (h y (by simp))]
theorem rputP_eq (p : Prp) : ∀ (l : List Prp), SortP l → rputP p l = putP l p
  | [], _ => rfl
  | y :: r, h => by
    have h' := List.pairwise_cons.1 h
    unfold rputP
    split
    · rename_i hl
      have hl2 := (lessB_iff _ _).1 hl
      have hne : sameN p y = false := by
        rw [sameN, beq_eq_false_iff_ne]
        exact Std.ne_of_lt hl2
      have hnl : lessB p.name y.name = false := (lessB_not _ _).2 (Std.le_of_lt hl2)
      rw [putP, List.filter_cons_of_pos (by simp [hne]), insP, if_neg (by simp [hnl]), rputP_eq p r h'.2]
      rfl
    · rename_i hl
      rw [putP, insP_front]
      intro z hz
      obtain ⟨hz1, hz2⟩ := List.mem_filter.1 hz
      have hle : p.name.toList ≤ y.name.toList := (lessB_not _ _).1 (by simpa using hl)
      have hne : z.name.toList ≠ p.name.toList := by simpa [sameN] using hz2
      rw [lessB_iff]
      rcases List.mem_cons.1 hz1 with rfl | hz1
      · exact Std.lt_of_le_of_ne hle (Ne.symm hne)
      · have := (lessB_iff _ _).1 (h'.1 z hz1)
        exact Std.lt_of_le_of_lt hle this
def rstep (p : Prp) (s : List Prp × Bool) (y : Prp) : List Prp × Bool :=
  if s.2 = false ∧ lessB y.name p.name = false then (s.1 ++ [p] ++ (if sameN p y then [] else [y]), true) else (s.1 ++ (if sameN p y then [] else [y]), s.2)
def rfold (p : Prp) (l : List Prp) : List Prp × Bool := l.foldl (rstep p) ([], false)
theorem rfold_snoc (p : Prp) (l : List Prp) (y : Prp) : rfold p (l ++ [y]) = rstep p (rfold p l) y := by simp [rfold, List.foldl_append]
theorem rfold_true (p : Prp) : ∀ (l o : List Prp), l.foldl (rstep p) (o, true) = (o ++ l.filter (fun y => !sameN p y), true)
  | [], o => by simp
  | y :: r, o => by
    rw [List.foldl_cons]
    have : rstep p (o, true) y = (o ++ (if sameN p y then [] else [y]), true) := by simp [rstep]
    rw [this, rfold_true p r]
    cases h : sameN p y <;> simp [h]
theorem rfold_false (p : Prp) : ∀ (l o : List Prp), (if (l.foldl (rstep p) (o, false)).2 then (l.foldl (rstep p) (o, false)).1 else (l.foldl (rstep p) (o, false)).1 ++ [p]) = o ++ rputP p l
  | [], o => by simp [rputP]
  | y :: r, o => by
    rw [List.foldl_cons]
    cases hl : lessB y.name p.name with
    | true =>
      have hne : sameN p y = false := by
        rw [sameN, beq_eq_false_iff_ne]
        exact Std.ne_of_lt ((lessB_iff _ _).1 hl)
      have : rstep p (o, false) y = (o ++ [y], false) := by simp [rstep, hl, hne]
      rw [this, rfold_false p r, rputP, if_pos hl]
      simp
    | false =>
      have : rstep p (o, false) y = (o ++ [p] ++ (if sameN p y then [] else [y]), true) := by simp [rstep, hl]
      rw [this, rfold_true, rputP]
      simp only [hl, Bool.false_eq_true, if_false, if_true]
      cases h : sameN p y <;> simp [h]
theorem rfold_end (p : Prp) (l : List Prp) (h : SortP l) : (if (rfold p l).2 then (rfold p l).1 else (rfold p l).1 ++ [p]) = putP l p := by
  rw [rfold, rfold_false, List.nil_append, rputP_eq p l h]
theorem rstep_len (p : Prp) (s : List Prp × Bool) (y : Prp) : (rstep p s y).1.length ≤ s.1.length + 2 := by
  unfold rstep
  cases sameN p y <;> split <;> simp <;> omega
theorem rfold_len (p : Prp) : ∀ (l : List Prp) (s : List Prp × Bool), (l.foldl (rstep p) s).1.length ≤ s.1.length + 2 * l.length
  | [], s => Nat.le_refl _
  | y :: r, s => by
    have h1 := rfold_len p r (rstep p s y)
    have h2 := rstep_len p s y
    simp only [List.foldl_cons, List.length_cons]
    omega
/-- what is told of lists that are laid over one another -/
def ovE (ls : List (List Prp)) : Int := if ls.all (fun xs => decide (prE xs = 0)) = false then 9 else if 8 < (overP ls.flatten).length then 3 else 0
def ovL (ls : List (List Prp)) : List Prp := if ovE ls = 0 then overP ls.flatten else []
theorem prE_len {xs : List Prp} (h : prE xs = 0) : xs.length ≤ 8 := by
  unfold prE at h
  split at h
  · cases h
  · omega
theorem all_len : ∀ {ls : List (List Prp)}, ls.all (fun xs => decide (prE xs = 0)) = true → ls.flatten.length ≤ 8 * ls.length
  | [], _ => Nat.le_refl _
  | xs :: ls, h => by
    simp only [List.all_cons, Bool.and_eq_true, decide_eq_true_eq] at h
    have h1 := prE_len h.1
    have h2 := all_len h.2
    simp only [List.flatten_cons, List.length_append, List.length_cons]
    omega
end Go.Proofs.YtmecjjmlccdppaaGreatDoor
