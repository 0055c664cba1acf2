/- Two rows of acts of the call's own, that share their octets; the plain law of what stands and what is now. -/
import Derived.Test.YthjpjhcbefhpbaaKeep
namespace Go.Proofs.Ythjpjhcbefhpbaa
open Go.RowKit
set_option linter.unusedVariables false

/-- row A holds the acts rs, row B the acts bs, all of which are among rs -/
structure Rows2 (w : World) (base : Nat) (vA : Value) (rs : List Ac) (vB : Value) (bs : List Ac) : Prop where
  a : w.ownsRow base 36 3 vA rs.length (rs.flatMap Ac.cells)
  b : w.ownsRow base 36 3 vB bs.length (bs.flatMap Ac.cells)
  ne : ∀ g, vA.ownBlock = some g → vB.ownBlock ≠ some g
  all : ∀ x ∈ rs, Ac.K w (fun k => base ≤ k ∧ vA.ownBlock ≠ some k ∧ vB.ownBlock ≠ some k) x
  sub : ∀ x ∈ bs, x ∈ rs
section
variable {w w' : World} {base : Nat} {vA vB v' : Value} {rs bs : List Ac} {x : Ac}
theorem Rows2.nil (w : World) (base : Nat) : Rows2 w base (.slice none 0 0) [] (.slice none 0 0) [] :=
  ⟨World.ownsRow_nil _ _ _ _, World.ownsRow_nil _ _ _ _, (fun _ h => by cases h), (fun _ h => by simp at h), (fun _ h => by simp at h)⟩
theorem Rows2.keep {ok : Nat → Prop} (h : Rows2 w base vA rs vB bs) (k : Keep ok w w') (ho : ∀ b, base ≤ b → b < w.heap.size → ok b) : Rows2 w' base vA rs vB bs :=
  ⟨own_keep h.a k (fun g hg => ho g (h.a.lt g hg).1 (h.a.lt g hg).2), own_keep h.b k (fun g hg => ho g (h.b.lt g hg).1 (h.b.lt g hg).2), h.ne,
    fun x hx => ((h.all x hx).mono (ok' := fun k => (base ≤ k ∧ vA.ownBlock ≠ some k ∧ vB.ownBlock ≠ some k) ∧ ok k) fun b hb ⟨h1, h2⟩ => ⟨⟨h1, h2⟩, ho b h1 hb⟩).keep k (fun b hb => hb.2) |>.mono fun b _ hb => hb.1, h.sub⟩
theorem Rows2.ext (h : Rows2 w base vA rs vB bs) (e : Ext w w') : Rows2 w' base vA rs vB bs := h.keep (Keep.of_ext (ok := fun _ => True) e) fun _ _ _ => trivial
/-- what a later world makes lies apart from both rows -/
theorem Rows2.apart (h : Rows2 w base vA rs vB bs) (hb : base ≤ w.heap.size) : ∀ b, w.heap.size ≤ b → base ≤ b ∧ vA.ownBlock ≠ some b ∧ vB.ownBlock ≠ some b := fun b hb' =>
  ⟨by omega, fun e => by have := (h.a.lt b e).2; omega, fun e => by have := (h.b.lt b e).2; omega⟩
theorem Rows2.pushA (h : Rows2 w base vA rs vB bs) (hx : Ac.K w (fun k => base ≤ k ∧ vA.ownBlock ≠ some k ∧ vB.ownBlock ≠ some k) x) (o : w'.ownsRow base 36 3 v' (rs.length + 1) (rs.flatMap Ac.cells ++ x.cells)) (hg : w.grownBy w' vA.ownBlock)
    (hob : v'.ownBlock = vA.ownBlock ∨ v'.ownBlock = some w.heap.size) : Rows2 w' base v' (rs ++ [x]) vB bs := by
  have k : Keep (fun b => vA.ownBlock ≠ some b) w w' := (Keep.refl _ w).grown hg fun k hk hn => hn hk
  have key : ∀ y, Ac.K w (fun k => base ≤ k ∧ vA.ownBlock ≠ some k ∧ vB.ownBlock ≠ some k) y → Ac.K w' (fun k => base ≤ k ∧ v'.ownBlock ≠ some k ∧ vB.ownBlock ≠ some k) y := fun y hy => by
    have h1 := (hy.mono (ok' := fun k => (base ≤ k ∧ vA.ownBlock ≠ some k ∧ vB.ownBlock ≠ some k) ∧ k < w.heap.size) fun b hb h => ⟨h, hb⟩).keep k (fun b hb => hb.1.2.1)
    refine h1.mono fun b _ ⟨⟨h2, h3, h4⟩, h5⟩ => ⟨h2, fun e => ?_, h4⟩
    rcases hob with h6 | h6
    · exact h3 (by rw [← h6]; exact e)
    · rw [h6] at e; injection e; omega
  refine ⟨by rw [List.length_append, List.flatMap_append]; simpa using o, own_keep h.b k (fun g hg' e => h.ne g e hg'), fun g hg' => ?_, fun y hy => ?_, fun y hy => List.mem_append_left _ (h.sub y hy)⟩
  · rcases hob with h6 | h6
    · exact h.ne g (by rw [← h6]; exact hg')
    · rw [h6] at hg'
      injection hg' with hg'
      intro e
      have := (h.b.lt g e).2
      omega
  · rcases List.mem_append.1 hy with h' | h'
    · exact key y (h.all y h')
    · simp only [List.mem_singleton] at h'
      subst h'
      exact key _ hx
theorem Rows2.pushB (h : Rows2 w base vA rs vB bs) (hx : x ∈ rs) (o : w'.ownsRow base 36 3 v' (bs.length + 1) (bs.flatMap Ac.cells ++ x.cells)) (hg : w.grownBy w' vB.ownBlock)
    (hob : v'.ownBlock = vB.ownBlock ∨ v'.ownBlock = some w.heap.size) : Rows2 w' base vA rs v' (bs ++ [x]) := by
  have k : Keep (fun b => vB.ownBlock ≠ some b) w w' := (Keep.refl _ w).grown hg fun k hk hn => hn hk
  refine ⟨own_keep h.a k (fun g hg' e => h.ne g hg' e), by rw [List.length_append, List.flatMap_append]; simpa using o, fun g hg' e => ?_, fun y hy => ?_, fun y hy => ?_⟩
  · rcases hob with h6 | h6
    · exact h.ne g hg' (by rw [← h6]; exact e)
    · rw [h6] at e
      injection e with e
      have := (h.a.lt g hg').2
      omega
  · have h1 := ((h.all y hy).mono (ok' := fun k => (base ≤ k ∧ vA.ownBlock ≠ some k ∧ vB.ownBlock ≠ some k) ∧ k < w.heap.size) fun b hb h => ⟨h, hb⟩).keep k (fun b hb => hb.1.2.2)
    refine h1.mono fun b _ ⟨⟨h2, h3, h4⟩, h5⟩ => ⟨h2, h3, fun e => ?_⟩
    rcases hob with h6 | h6
    · exact h4 (by rw [← h6]; exact e)
    · rw [h6] at e; injection e; omega
  · rcases List.mem_append.1 hy with h' | h'
    · exact h.sub y h'
    · simp only [List.mem_singleton] at h'
      subst h'
      exact hx
/-- the waits are dropped -/
theorem Rows2.drop (h : Rows2 w base vA rs vB bs) : Rows2 w base vA rs (.slice none 0 0) [] :=
  ⟨h.a, World.ownsRow_nil _ _ _ _, fun _ _ h => (by cases h), fun x hx => (h.all x hx).mono fun b _ ⟨h1, h2, _⟩ => ⟨h1, h2, fun h => by cases h⟩, fun _ h => by simp at h⟩
theorem Rows2.acs (h : Rows2 w base vA rs vB bs) : ∃ A c, vA = .slice A rs.length c ∧ rs.length ≤ c ∧ c ≤ maxLen ∧ Acs w A rs.length c rs := by
  obtain ⟨A, c, rfl, h1, h2, _⟩ := own_form h.a
  refine ⟨A, c, rfl, h1, h2, ⟨rfl, ?_, (Rd.of_own h.a).more (Nat.zero_le _) (Nat.le_refl _), fun a ha => (h.all a ha).at_ fun _ _ => Nat.zero_le _⟩⟩
  have : c ≤ 9223372036854775807 := h2
  omega
end
/-! What stands, what is now. -/
theorem readV_snoc (S : SV) (W : WV) (x : Int × List UInt8) (i : Nat) : readV S (W ++ [x]) i = if x.1 = (i : Int) then x.2 else readV S W i := by
  unfold readV
  rw [List.reverse_append, List.reverse_singleton, List.singleton_append, List.find?_cons]
  by_cases h : x.1 = (i : Int)
  · simp [h]
  · have : (x.1 == (i : Int)) = false := by simpa using h
    rw [this, if_neg h]
theorem setV_read (S : SV) (W : WV) (hW : ∀ x ∈ W, 0 ≤ x.1 ∧ x.1 < (S.length : Int)) (i : Nat) (hi : i < S.length) : ∀ n, n ≤ W.length → (setV (fun _ => true) W S n)[i]? = some (readV S (W.take n) i) ∧ (setV (fun _ => true) W S n).length = S.length
  | 0, _ => ⟨by simp [setV, readV, List.getD, List.getElem?_eq_getElem hi], rfl⟩
  | n + 1, h => by
    obtain ⟨h1, h2⟩ := setV_read S W hW i hi n (by omega)
    have hx : W[n]? = some W[n] := List.getElem?_eq_getElem (by omega)
    obtain ⟨h3, h4⟩ := hW W[n] (List.getElem_mem _)
    rw [List.take_succ_eq_append_getElem (by omega), readV_snoc]
    unfold setV
    rw [hx]
    simp only [if_true, List.length_set]
    refine ⟨?_, h2⟩
    rw [List.getElem?_set]
    by_cases e : W[n].1 = (i : Int)
    · rw [if_pos e, if_pos (by omega), if_pos (by omega)]
    · rw [if_neg e, if_neg (by omega)]
      exact h1
theorem setV_past (ks : List Bool) (S : SV) (W : WV) : ∀ n m, ks.length ≤ m → m ≤ n → setV (keepB ks) W S n = setV (keepB ks) W S m
  | 0, m, _, h => by
    have e : m = 0 := by omega
    rw [e]
  | n + 1, m, h1, h2 => by
    by_cases e : m = n + 1
    · rw [e]
    · have h3 := setV_past ks S W n m h1 (by omega)
      rw [← h3]
      have : keepB ks n = false := by simp [keepB, List.getD, List.getElem?_eq_none (show ks.length ≤ n by omega)]
      rw [setV]
      cases W[n]? with
      | none => rfl
      | some x => simp [this]
theorem fill_set {α : Type} (z e : α) (n j : Nat) (h : j < n) : (List.replicate j z ++ List.replicate (n - j) e).set j z = List.replicate (j + 1) z ++ List.replicate (n - (j + 1)) e := by
  rw [show n - j = (n - (j + 1)) + 1 by omega, List.replicate_succ]
  have := set_mid (List.replicate j z) e z (List.replicate (n - (j + 1)) e)
  rw [List.length_replicate] at this
  rw [this, List.replicate_succ']
  simp
def strv (l : List UInt8) : Value := .string ⟨l.toArray⟩
end Go.Proofs.Ythjpjhcbefhpbaa
