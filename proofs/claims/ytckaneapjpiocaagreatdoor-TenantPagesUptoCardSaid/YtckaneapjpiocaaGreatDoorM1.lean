/- The texts Lib, Row, RowArg, Opens in one file. -/
import Derived.Test.YtckaneapjpiocaaGreatDoorRows
import Derived.WalkKit
import Derived.WalkSpells
import Derived.WalkLawsBesides
import Derived.BigQuiet
import Derived.Deep.QuietTactic
import Derived.Laws.StructEq
import Derived.Below
import Derived.Laws.OwnMore
import Derived.Deep.AppendLies
import Derived.Deep.Draws
import Derived.Maps.AppendAt
import Derived.RegionTactic
import Derived.OwnWalk
import Derived.Deep.RegionHeld3
import Derived.Lib.Hide
import Derived.Lib.SliceRun
import Derived.Laws.IdiomCopy
import Derived.ProofKit
import Derived.OpenShut
import Derived.JoinedCond
import Derived.SizedLaws
import Derived.Deep.Slices
import Derived.Deep.Fields
import Derived.ChangeSame
import Derived.Lib.SmallJoins
import Derived.Deep.CondSized
import Derived.SliceStrings
/-
  Small general lemmas on slices that read as a list of cells, on appends, and on regions; proved for whatever program. No condition of its own.
-/
namespace Go.Proofs.YtckaneapjpiocaaGreatDoor
open Go.RowKit

theorem lyA {α : Type} (l : List α) (i : Nat) (a : α) : l.toArray.setIfInBounds i a = (l.set i a).toArray := List.setIfInBounds_toArray ..
theorem lyB {α : Type} {x a : α} {xs : List α} : (x :: xs).set 0 a = a :: xs := List.set_cons_zero
theorem lyC {α : Type} {x a : α} {xs : List α} {i : Nat} : (x :: xs).set (i + 1) a = x :: xs.set i a := List.set_cons_succ
theorem add_lit (b o n : Nat) : (⟨b, o, none⟩ : Addr).add n = ⟨b, o + n, none⟩ := by
  unfold Addr.add
  by_cases h : n = 0 <;> simp [h]

/-- The cells cs stand, one behind the other, from the address A on, in a block from lo on and below hi. Of no cells nothing is said. -/
def Rd (w : World) (lo hi : Nat) (A : Option Addr) (cs : List Value) : Prop :=
  cs ≠ [] → ∃ b o, A = some ⟨b, o, none⟩ ∧ lo ≤ b ∧ b < hi ∧ ∀ j u, cs[j]? = some u → w.cell? ⟨b, o + j, none⟩ = some u

section
variable {w w' : World} {lo hi lo' hi' : Nat} {A : Option Addr} {cs : List Value}
theorem Rd.nil : Rd w lo hi A [] := fun h => absurd rfl h
theorem Rd.keep (h : Rd w lo hi A cs) (hk : ∀ p : Addr, p.block < hi → w'.cell? p = w.cell? p) : Rd w' lo hi A cs := fun hn => by
  obtain ⟨b, o, e, h1, h2, h3⟩ := h hn
  exact ⟨b, o, e, h1, h2, fun j u hu => (hk _ h2).trans (h3 j u hu)⟩
theorem Rd.more (h : Rd w lo hi A cs) (hl : lo' ≤ lo) (hh : hi ≤ hi') : Rd w lo' hi' A cs := fun hn => by
  obtain ⟨b, o, e, h1, h2, h3⟩ := h hn
  exact ⟨b, o, e, by omega, by omega, h3⟩
theorem Rd.below {B : Nat} (h : Rd w lo hi A cs) (hb : Below B w w') (hB : hi ≤ B) : Rd w' lo hi A cs := h.keep fun _ hp => hb.cell (Nat.lt_of_lt_of_le hp hB)
theorem Rd.drew (h : Rd w lo hi A cs) : Rd w.drew lo hi A cs := h
theorem Rd.drewN (h : Rd w lo hi A cs) (k : Nat) : Rd (w.drewN k) lo hi A cs := h
theorem Rd.alloc (h : Rd w lo hi A cs) (hB : hi ≤ w.heap.size) (o : Obj) : Rd (w.alloc o) lo hi A cs := h.keep fun p hp => World.cell?_alloc_lt w o p (by omega)
theorem Rd.setCell (h : Rd w lo hi A cs) {p : Addr} (hB : hi ≤ p.block) (u : Value) : Rd (w.setCell p u) lo hi A cs :=
  h.keep fun q hq => World.cell?_setCell_other w p q u (fun e => by subst e; omega)
theorem Rd.setCell_low (h : Rd w lo hi A cs) {p : Addr} (hB : p.block < lo) (u : Value) : Rd (w.setCell p u) lo hi A cs := fun hn => by
  obtain ⟨b, o, e, h1, h2, h3⟩ := h hn
  exact ⟨b, o, e, h1, h2, fun j v hv => (World.cell?_setCell_other w p _ u (fun e => by subst e; simp at hB; omega)).trans (h3 j v hv)⟩
theorem Rd.grown (h : Rd w lo hi A cs) {row : Option Nat} (hg : w.grownBy w' row) (hB : hi ≤ w.heap.size) (hr : ∀ g, row = some g → hi ≤ g) : Rd w' lo hi A cs :=
  h.keep fun p hp => World.cell?_of_block (hg.block p.block (by omega) (fun e => by have := hr _ e.symm; omega))
theorem Rd.drop (h : Rd w lo hi A cs) (k : Nat) : Rd w lo hi (A.map (·.add k)) (cs.drop k) := fun hn => by
  have hk : k < cs.length := by
    rcases Nat.lt_or_ge k cs.length with h' | h'
    · exact h'
    · exact absurd (List.drop_eq_nil_of_le h') hn
  obtain ⟨b, o, rfl, h1, h2, h3⟩ := h (fun e => by simp [e] at hk)
  refine ⟨b, o + k, by simp [add_lit], h1, h2, fun j u hu => ?_⟩
  rw [Nat.add_assoc]
  exact h3 _ u (by rw [← hu, List.getElem?_drop])
theorem Rd.take (h : Rd w lo hi A cs) (k : Nat) : Rd w lo hi A (cs.take k) := fun hn => by
  obtain ⟨b, o, rfl, h1, h2, h3⟩ := h (fun e => by simp [e] at hn)
  refine ⟨b, o, rfl, h1, h2, fun j u hu => h3 j u ?_⟩
  rw [List.getElem?_take] at hu
  split at hu
  · exact hu
  · cases hu
theorem Rd.of_own {base : Nat} {e : TypeId} {size n c : Nat} (h : w.ownsRow base e size (.slice A n c) n cs) : Rd w base w.heap.size A cs := fun hn => by
  rcases h.2 with ⟨hv, h0⟩ | ⟨g, cap, cur, hv, hb, hh, _⟩
  · subst h0
    exact absurd (List.eq_nil_of_length_eq_zero (by simpa using h.1)) hn
  · have hA : A = some ⟨g, 0, none⟩ := by injection hv
    subst hA
    have hlt := h.lt g rfl
    refine ⟨g, 0, rfl, hb, hlt.2, fun j u hu => ?_⟩
    have := h.cells (g := g) rfl j u hu
    rwa [add_lit] at this
end

section
variable {P : Program} (w : World)
theorem run_append_any (base : Nat) (t ty e : TypeId) (i : TypeInfo) (z : Value) (size bytes : Nat) (ht : P.underlying t = some (.slice e)) (hi : P.info? e = some i) (hz : i.zero = some z)
    (hsize : i.size = size) (hby : i.bytes = bytes) (hzs : z.cells.size = size) (hsz : 0 < size)
    (v : Value) (n : Nat) (xs : List Value) (hown : w.ownsRow base e size v n xs)
    (lo h' : Nat) (A : Option Addr) (m c : Nat) (news : List Value) (hl : news.length = m * size) (hr : Rd w lo h' A news) (h1 : ∀ u ∈ news, u.oneCell' = true)
    (h63 : n + m ≤ maxLen) (hbytes : (n + m) * bytes ≤ 140737488355328) (hbase : base ≤ w.heap.size) :
    ∃ v' w', (Builtin.append_ #[t, t] ty #[v, .slice A m c]).run P w = .ok v' w' ∧ w'.ownsRow base e size v' (n + m) (xs ++ news) ∧ w.grownBy w' v.ownBlock ∧
      (v'.ownBlock = v.ownBlock ∨ v'.ownBlock = some w.heap.size) := by
  have hnil : m = 0 → news = [] := fun h => by subst h; exact List.eq_nil_of_length_eq_zero (by simpa using hl)
  rcases A with _ | ad
  · have hm : m = 0 := by
      rcases Nat.eq_zero_or_pos m with h0 | h0
      · exact h0
      · obtain ⟨b, o, h, _⟩ := hr (fun e => by have := Nat.mul_pos h0 hsz; simp [e] at hl; omega)
        cases h
    have hn := hnil hm
    subst hm
    subst hn
    have : (Builtin.append_ #[t, t] ty #[v, .slice none 0 c]).run P w = .ok v w := by
      rcases hown.2 with ⟨rfl, rfl⟩ | ⟨g, cap, cur, rfl, _, _, hnc, _⟩
      · simp [Builtin.append_, run_underlying ht, sizeOf, typeInfo, hi, Builtin.lenOf, Builtin.firstCells]
      · simp [Builtin.append_, run_underlying ht, sizeOf, typeInfo, hi, Builtin.lenOf, Builtin.firstCells, hnc, storeCells]
    exact ⟨v, w, this, by simpa using hown, World.grownBy.refl w _, .inl rfl⟩
  · have hcells : ∀ j u, news[j]? = some u → w.cell? (ad.add j) = some u := by
      intro j u hu
      obtain ⟨b, o, h, _, _, hc⟩ := hr (fun e => by simp [e] at hu)
      injection h with h
      subst h
      rw [add_lit]
      exact hc j u hu
    obtain ⟨v', w', hrun, h2, h3, _, h5⟩ := run_append_own_at (P := P) w base t ty e i z size bytes ht hi hz hsize hby hzs hsz v n xs hown ad m c news hl hcells h1 h63 hbytes hbase
    exact ⟨v', w', hrun, h2, h3, h5⟩

theorem wp_append_any {o : Oper} {a : Act} {K : Act → World → Prop} {Q : Exit → Act → World → Prop} (s x : Operand) (t : TypeId)
    (ho : o.op = .call { callee := .builtin .append, args := #[s, x], argTypes := #[t, t] })
    (base : Nat) (e : TypeId) (i : TypeInfo) (z : Value) (size bytes : Nat) (ht : P.underlying t = some (.slice e)) (hi : P.info? e = some i) (hz : i.zero = some z)
    (hsize : i.size = size) (hby : i.bytes = bytes) (hzs : z.cells.size = size) (hsz : 0 < size)
    (v : Value) (n : Nat) (xs : List Value) (hs : a.eval s = v) (hown : w.ownsRow base e size v n xs)
    (lo h' : Nat) (A : Option Addr) (m c : Nat) (news : List Value) (hx : a.eval x = .slice A m c) (hl : news.length = m * size) (hr : Rd w lo h' A news) (h1 : ∀ u ∈ news, u.oneCell' = true)
    (h63 : n + m ≤ maxLen) (hbytes : (n + m) * bytes ≤ 140737488355328) (hbase : base ≤ w.heap.size)
    (h : ∀ v' w', w'.ownsRow base e size v' (n + m) (xs ++ news) → w.grownBy w' v.ownBlock → (v'.ownBlock = v.ownBlock ∨ v'.ownBlock = some w.heap.size) → K (a.put o.dst v') w') : o.wp P a w K Q := by
  obtain ⟨v', w', hrun, h2, h3, h4⟩ := run_append_any (P := P) w base t o.type e i z size bytes ht hi hz hsize hby hzs hsz v n xs hown lo h' A m c news hl hr h1 h63 hbytes hbase
  unfold Oper.wp execOp
  simp only [ho, resolve, invoke, builtin, Sem.run_bind, Sem.run_pure, Result.andThen_ok, List.map_toArray, List.map_cons, List.map_nil, hs, hx, hrun]
  exact h v' w' h2 h3 h4

theorem wpList_append_any {ops : Array Oper} {rest : List Oper} {o : Oper} {a : Act} {Q : Exit → Act → World → Prop} (hgd : o.guard = none) (s x : Operand) (t : TypeId)
    (ho : o.op = .call { callee := .builtin .append, args := #[s, x], argTypes := #[t, t] })
    (base : Nat) (e : TypeId) (i : TypeInfo) (z : Value) (size bytes : Nat) (ht : P.underlying t = some (.slice e)) (hi : P.info? e = some i) (hz : i.zero = some z)
    (hsize : i.size = size) (hby : i.bytes = bytes) (hzs : z.cells.size = size) (hsz : 0 < size)
    (v : Value) (n : Nat) (xs : List Value) (hs : a.eval s = v) (hown : w.ownsRow base e size v n xs)
    (lo h' : Nat) (A : Option Addr) (m c : Nat) (news : List Value) (hx : a.eval x = .slice A m c) (hl : news.length = m * size) (hr : Rd w lo h' A news) (h1 : ∀ u ∈ news, u.oneCell' = true)
    (h63 : n + m ≤ maxLen) (hbytes : (n + m) * bytes ≤ 140737488355328) (hbase : base ≤ w.heap.size)
    (h : ∀ v' w', w'.ownsRow base e size v' (n + m) (xs ++ news) → w.grownBy w' v.ownBlock → (v'.ownBlock = v.ownBlock ∨ v'.ownBlock = some w.heap.size) → wpList P ops Q rest (a.put o.dst v') w') : wpList P ops Q (o :: rest) a w :=
  wpList_plain hgd fun _ hK => wp_append_any w s x t ho base e i z size bytes ht hi hz hsize hby hzs hsz v n xs hs hown lo h' A m c news hx hl hr h1 h63 hbytes hbase fun v' w' h2 h3 h4 => hK _ _ (h v' w' h2 h3 h4)

theorem step_append_any {ops : Array Oper} {o : Oper} {a : Act} {K : Act → World → Prop} {Q : Exit → Act → World → Prop} {E : Prop} (hgd : o.guard = none) (s x : Operand) (t : TypeId)
    (ho : o.op = .call { callee := .builtin .append, args := #[s, x], argTypes := #[t, t] })
    (base : Nat) (e : TypeId) (i : TypeInfo) (z : Value) (size bytes : Nat) (ht : P.underlying t = some (.slice e)) (hi : P.info? e = some i) (hz : i.zero = some z)
    (hsize : i.size = size) (hby : i.bytes = bytes) (hzs : z.cells.size = size) (hsz : 0 < size)
    (v : Value) (n : Nat) (xs : List Value) (hs : a.eval s = v) (hown : w.ownsRow base e size v n xs)
    (lo h' : Nat) (A : Option Addr) (m c : Nat) (news : List Value) (hx : a.eval x = .slice A m c) (hl : news.length = m * size) (hr : Rd w lo h' A news) (h1 : ∀ u ∈ news, u.oneCell' = true)
    (h63 : n + m ≤ maxLen) (hbytes : (n + m) * bytes ≤ 140737488355328) (hbase : base ≤ w.heap.size)
    (h : ∀ v' w', w'.ownsRow base e size v' (n + m) (xs ++ news) → w.grownBy w' v.ownBlock → (v'.ownBlock = v.ownBlock ∨ v'.ownBlock = some w.heap.size) → K (a.put o.dst v') w') :
    if Region.wanted o (yielded ops a.tmps) = true then Oper.wp P o a w K Q else E := by
  have hw : Region.wanted o (yielded ops a.tmps) = true := by simp [Region.wanted, hgd]
  rw [if_pos hw]
  exact wp_append_any w s x t ho base e i z size bytes ht hi hz hsize hby hzs hsz v n xs hs hown lo h' A m c news hx hl hr h1 h63 hbytes hbase h
end

theorem cell_new (w : World) (cs : Array Value) (t : TypeId) (j : Nat) {u : Value} (h : cs[j]? = some u) : (w.alloc (.cells cs t)).cell? ⟨w.heap.size, j, none⟩ = some u := by
  have := heap_alloc_new w (.cells cs t)
  unfold World.cell?
  rw [this]
  simpa using h

theorem rd_at {w w' : World} {lo h : Nat} {A : Option Addr} {cs : List Value} (hr : Rd w lo h A cs) (hb : Below h w w') (hh : h ≤ w.heap.size) : Rd w' lo w'.heap.size A cs :=
  (hr.below hb (Nat.le_refl _)).more (Nat.le_refl _) (Nat.le_trans hh hb.size)
theorem rd_new (w : World) (cs : Array Value) (t : TypeId) : Rd (w.alloc (.cells cs t)) w.heap.size (w.heap.size + 1) (some ⟨w.heap.size, 0, none⟩) cs.toList :=
  fun _ => ⟨_, _, rfl, Nat.le_refl _, Nat.lt_succ_self _, fun j u h => by rw [Nat.zero_add]; exact cell_new w cs t j (by simpa using h)⟩
theorem below_drewN {B : Nat} {a w : World} (h : Below B a w) (n : Nat) : Below B a (w.drewN n) := ⟨h.os, h.tape, h.output, h.size, h.block⟩

theorem below_alloc {B : Nat} {a w : World} (h : Below B a w) (hB : B ≤ a.heap.size) (o : Obj) : Below B a (w.alloc o) := h.alloc (Nat.le_trans hB h.size) o

theorem own_lower {w : World} {base base' : Nat} {e : TypeId} {size n : Nat} {v : Value} {xs : List Value} (h : w.ownsRow base e size v n xs) (hb : base' ≤ base) : w.ownsRow base' e size v n xs := by
  refine ⟨h.1, ?_⟩
  rcases h.2 with h' | ⟨g, cap, cur, h1, h2, h3⟩
  · exact .inl h'
  · exact .inr ⟨g, cap, cur, h1, Nat.le_trans hb h2, h3⟩
theorem rd_after {w0 w w' : World} {lo h : Nat} {A : Option Addr} {cs : List Value} (hr : Rd w lo h A cs) (hb : Below w.heap.size w w') (hh : h ≤ w.heap.size) (hl : w0.heap.size ≤ lo) : Rd w' w0.heap.size w'.heap.size A cs :=
  (hr.below hb hh).more hl (Nat.le_trans hh hb.size)

/-- All blocks that were there are as they were; there may be more. -/
def Ext (w w' : World) : Prop := Below w.heap.size w w'
theorem Ext.refl (w : World) : Ext w w := Below.refl _ _
theorem Ext.size {w w' : World} (h : Ext w w') : w.heap.size ≤ w'.heap.size := Below.size h
theorem Ext.trans {a b c : World} (h : Ext a b) (k : Ext b c) : Ext a c := Below.trans h (Below.mono k (Below.size h))
theorem Ext.drew {a b : World} (h : Ext a b) : Ext a b.drew := Below.drew h
theorem Ext.drewN {a b : World} (h : Ext a b) (n : Nat) : Ext a (b.drewN n) := below_drewN h n
theorem Ext.alloc {a b : World} (h : Ext a b) (o : Obj) : Ext a (b.alloc o) := below_alloc h (Nat.le_refl _) o
theorem Ext.setCell {a b : World} (h : Ext a b) {p : Addr} (hp : a.heap.size ≤ p.block) (u : Value) : Ext a (b.setCell p u) := Below.setCell h hp u
theorem below_ext {B : Nat} {a w w' : World} (h : Below B a w) (e : Ext w w') (hB : B ≤ a.heap.size) : Below B a w' := Below.trans h (Below.mono e (Nat.le_trans hB h.size))
theorem Rd.ext {w w' : World} {lo h : Nat} {A : Option Addr} {cs : List Value} (hr : Rd w lo h A cs) (e : Ext w w') (hh : h ≤ w.heap.size) : Rd w' lo h A cs := hr.below e hh
/-- what reads at a world reads at each later one, up to its end -/
theorem Rd.at {w w' : World} {lo h : Nat} {A : Option Addr} {cs : List Value} (hr : Rd w lo h A cs) (hb : Below h w w') (hh : h ≤ w.heap.size) : Rd w' lo w'.heap.size A cs :=
  (hr.below hb (Nat.le_refl _)).more (Nat.le_refl _) (Nat.le_trans hh hb.size)
theorem own_ext {w w' : World} {base : Nat} {e : TypeId} {size n : Nat} {v : Value} {xs : List Value} (h : w.ownsRow base e size v n xs) (k : Ext w w') : w'.ownsRow base e size v n xs := by
  refine ⟨h.1, ?_⟩
  rcases h.2 with h' | ⟨g, cap, cur, h1, h2, h3, h4⟩
  · exact .inl h'
  · have hlt := h.lt g (by rw [h1]; rfl)
    exact .inr ⟨g, cap, cur, h1, h2, (k.block g hlt.2).trans h3, h4⟩
theorem ext_grown {a w w' : World} {base : Nat} {e : TypeId} {size n : Nat} {v : Value} {xs : List Value} (h : Ext a w) (hown : w.ownsRow base e size v n xs) (hg : w.grownBy w' v.ownBlock) (hb : a.heap.size ≤ base) : Ext a w' :=
  Below.grown h hg h.size fun k hk => Nat.le_trans hb (hown.lt k hk).1
theorem bl_grown {B : Nat} {a w w' : World} {base : Nat} {e : TypeId} {size n : Nat} {v : Value} {xs : List Value} (h : Below B a w) (hown : w.ownsRow base e size v n xs) (hg : w.grownBy w' v.ownBlock) (hb : B ≤ base) (hB : B ≤ a.heap.size) : Below B a w' :=
  Below.grown h hg (Nat.le_trans hB h.size) fun k hk => Nat.le_trans hb (hown.lt k hk).1

/-- as Rd; and the cells may be written -/
def Wr (w : World) (lo hi : Nat) (A : Option Addr) (cs : List Value) : Prop :=
  cs ≠ [] → ∃ b o, A = some ⟨b, o, none⟩ ∧ lo ≤ b ∧ b < hi ∧ ∀ j u, cs[j]? = some u → w.cell? ⟨b, o + j, none⟩ = some u ∧ w.frozen? ⟨b, o + j, none⟩ = false
theorem Wr.rd {w : World} {lo hi : Nat} {A : Option Addr} {cs : List Value} (h : Wr w lo hi A cs) : Rd w lo hi A cs := fun hn => by
  obtain ⟨b, o, h1, h2, h3, h4⟩ := h hn
  exact ⟨b, o, h1, h2, h3, fun j u hu => (h4 j u hu).1⟩
theorem Wr.drop {w : World} {lo hi : Nat} {A : Option Addr} {cs : List Value} (h : Wr w lo hi A cs) (k : Nat) : Wr w lo hi (A.map (·.add k)) (cs.drop k) := fun hn => by
  have hk : k < cs.length := by
    rcases Nat.lt_or_ge k cs.length with h' | h'
    · exact h'
    · exact absurd (List.drop_eq_nil_of_le h') hn
  obtain ⟨b, o, rfl, h1, h2, h3⟩ := h (fun e => by simp [e] at hk)
  refine ⟨b, o + k, by simp [add_lit], h1, h2, fun j u hu => ?_⟩
  rw [Nat.add_assoc]
  exact h3 _ u (by rw [← hu, List.getElem?_drop])
theorem Wr.of_own {w : World} {cs : List Value} {A : Option Addr} {base : Nat} {e : TypeId} {size n c : Nat} (h : w.ownsRow base e size (.slice A n c) n cs) : Wr w base w.heap.size A cs := fun hn => by
  rcases h.2 with ⟨hv, h0⟩ | ⟨g, cap, cur, hv, hb, hh, _⟩
  · subst h0
    exact absurd (List.eq_nil_of_length_eq_zero (by simpa using h.1)) hn
  · have hA : A = some ⟨g, 0, none⟩ := by injection hv
    subst hA
    have hlt := h.lt g rfl
    refine ⟨g, 0, rfl, hb, hlt.2, fun j u hu => ⟨?_, ?_⟩⟩
    · have := h.cells (g := g) rfl j u hu
      rwa [add_lit] at this
    · simp [World.frozen?, hh]
/-- an owned row's value -/
theorem own_form {w : World} {base : Nat} {e : TypeId} {size n : Nat} {v : Value} {xs : List Value} (h : w.ownsRow base e size v n xs) : ∃ A c, v = .slice A n c ∧ n ≤ c ∧ c ≤ maxLen ∧ (A = none → n = 0) := by
  rcases h.2 with ⟨rfl, rfl⟩ | ⟨g, cap, cur, rfl, _, _, h1, h2, _⟩
  · exact ⟨none, 0, rfl, Nat.le_refl _, Nat.zero_le _, fun _ => rfl⟩
  · exact ⟨_, cap, rfl, h1, h2, fun h => by cases h⟩

/-- a variable of the call's own (a struct, cell by cell): what it holds at each later world -/
theorem box_cells {w w1 : World} {cs : Array Value} {t : TypeId} (h : w.alloc (.cells cs t) = w1) : Ext w w1 ∧ w1.heap.size = w.heap.size + 1 ∧ ∀ j u, cs[j]? = some u → ∀ w', Ext w1 w' → w'.cell? ⟨w.heap.size, j, none⟩ = some u := by
  subst h
  refine ⟨(Ext.refl _).alloc _, by simp, fun j u hu w' he => ?_⟩
  rw [Below.cell he (by simp)]
  exact cell_new w cs t j hu

/-- n cells from ⟨b, o⟩ on are there and may be written -/
def Can (w : World) (b o n : Nat) : Prop := ∀ j, j < n → (∃ u, w.cell? ⟨b, o + j, none⟩ = some u) ∧ w.frozen? ⟨b, o + j, none⟩ = false
theorem Can.setCell {w : World} {b o n : Nat} (h : Can w b o n) (p : Addr) (v : Value) : Can (w.setCell p v) b o n := fun j hj => by
  obtain ⟨⟨u, hu⟩, hf⟩ := h j hj
  refine ⟨cell?_setCell_some hu, ?_⟩
  rw [World.frozen?_setCell]
  exact hf
theorem Can.ext {w w' : World} {b o n : Nat} (h : Can w b o n) (e : Ext w w') : Can w' b o n := fun j hj => by
  obtain ⟨⟨u, hu⟩, hf⟩ := h j hj
  have hb : (⟨b, o + j, none⟩ : Addr).block < w.heap.size := World.block_lt_of_cell? w _ hu
  exact ⟨⟨u, (Below.cell e hb).trans hu⟩, (Below.frozen e hb).trans hf⟩
theorem Wr.can {w : World} {lo hi : Nat} {b o : Nat} {cs : List Value} (h : Wr w lo hi (some ⟨b, o, none⟩) cs) : Can w b o cs.length := fun j hj => by
  obtain ⟨b', o', he, _, _, hc⟩ := h (fun e => by simp [e] at hj)
  simp only [Option.some.injEq, Addr.mk.injEq, and_true] at he
  obtain ⟨rfl, rfl⟩ := he
  exact ⟨⟨_, (hc j _ (List.getElem?_eq_getElem hj)).1⟩, (hc j _ (List.getElem?_eq_getElem hj)).2⟩

/-- octets as cells -/
def bytes (l : List UInt8) : List Value := l.map fun b => .int .u8 (b.toNat : Int)
theorem bytes_length (l : List UInt8) : (bytes l).length = l.length := by simp [bytes]
theorem bytes_one (l : List UInt8) : ∀ u ∈ bytes l, u.oneCell' = true := by
  intro u hu
  simp only [bytes, List.mem_map] at hu
  obtain ⟨x, _, rfl⟩ := hu
  rfl
theorem bytes_append (a b : List UInt8) : bytes (a ++ b) = bytes a ++ bytes b := by simp [bytes]
theorem bytes_drop (l : List UInt8) (k : Nat) : (bytes l).drop k = bytes (l.drop k) := by simp [bytes]
theorem bytes_take (l : List UInt8) (k : Nat) : (bytes l).take k = bytes (l.take k) := by simp [bytes]
/-- 'string(b)' of octets that read -/
theorem run_conv_str {P : Program} (w : World) (src dst e : TypeId) (hs : P.underlying src = some (.slice e)) (he : P.underlying e = some (.int .u8)) (hd : P.underlying dst = some .string)
    (lo hi : Nat) (A : Option Addr) (n c : Nat) (l : List UInt8) (hn : n = l.length) (h : Rd w lo hi A (bytes l)) : (convert src dst (.slice A n c)).run P w = .ok (.string ⟨l.toArray⟩) w := by
  subst hn
  cases l with
  | nil =>
    cases A with
    | none => exact run_convert_bytes_nil w src e hs he 0 c dst hd
    | some a => exact run_convert_bytes_back w src dst e a c [] hs he hd (fun j hj => by simp at hj)
  | cons x l =>
    obtain ⟨b, o, rfl, _, _, hc⟩ := h (by simp [bytes])
    refine run_convert_bytes_back w src dst e ⟨b, o, none⟩ c (x :: l) hs he hd (fun j hj => ?_)
    rw [add_lit]
    exact hc j _ (by rw [bytes, List.getElem?_map, List.getElem?_eq_getElem hj]; rfl)
/-- octet k of a row of octets -/
theorem rd_byte {w : World} {lo hi : Nat} {A : Option Addr} {l : List UInt8} (h : Rd w lo hi A (bytes l)) {k : Nat} (hk : k < l.length) :
    ∃ b o, A = some ⟨b, o, none⟩ ∧ lo ≤ b ∧ b < hi ∧ w.cell? ⟨b, o + k, none⟩ = some (.int .u8 (l[k].toNat : Int)) := by
  obtain ⟨b, o, h1, h2, h3, h4⟩ := h (fun e => by have := bytes_length l; rw [e] at this; simp at this; omega)
  exact ⟨b, o, h1, h2, h3, h4 k _ (by simp [bytes, List.getElem?_eq_getElem hk])⟩

theorem below_grown {B : Nat} {a w w' : World} {row : Option Nat} (h : Below B a w) (hg : w.grownBy w' row) (hB : B ≤ w.heap.size) (hr : row = none ∨ ∃ k, row = some k ∧ B ≤ k) : Below B a w' :=
  h.grown hg hB fun k hk => by
    rcases hr with hr | ⟨k', hr, hb⟩
    · rw [hr] at hk; cases hk
    · rw [hr] at hk; cases hk; exact hb
section
variable {P : Program} (w : World)
/-- 'append(nil, l...)': a row of the call's own; all that was there stays -/
theorem step_app0 {ops : Array Oper} {o : Oper} {a : Act} {K : Act → World → Prop} {Q : Exit → Act → World → Prop} {E : Prop} (hgd : o.guard = none) (s x : Operand) (t : TypeId)
    (ho : o.op = .call { callee := .builtin .append, args := #[s, x], argTypes := #[t, t] })
    (e : TypeId) (i : TypeInfo) (z : Value) (size bytes : Nat) (ht : P.underlying t = some (.slice e)) (hi : P.info? e = some i) (hz : i.zero = some z)
    (hsize : i.size = size) (hby : i.bytes = bytes) (hzs : z.cells.size = size) (hsz : 0 < size)
    (hs : a.eval s = .slice none 0 0) (lo h' : Nat) (A : Option Addr) (m c : Nat) (news : List Value) (hx : a.eval x = .slice A m c) (hl : news.length = m * size) (hr : Rd w lo h' A news) (h1 : ∀ u ∈ news, u.oneCell' = true)
    (h63 : m ≤ maxLen) (hbytes : m * bytes ≤ 140737488355328)
    (h : ∀ v' w', w'.ownsRow w.heap.size e size v' m news → Ext w w' → K (a.put o.dst v') w') : if Region.wanted o (yielded ops a.tmps) = true then Oper.wp P o a w K Q else E :=
  step_append_any w hgd s x t ho w.heap.size e i z size bytes ht hi hz hsize hby hzs hsz (.slice none 0 0) 0 [] hs (World.ownsRow_nil w _ _ _) lo h' A m c news hx hl hr h1 (by rw [Nat.zero_add]; exact h63) (by rw [Nat.zero_add]; exact hbytes) (Nat.le_refl _)
    fun v' w' h2 h3 _ => h v' w' (by rw [Nat.zero_add, List.nil_append] at h2; exact h2) (ext_grown (Ext.refl w) (World.ownsRow_nil w w.heap.size e size) h3 (Nat.le_refl _))
/-- 'append(v, l...)', v a row of the call's own -/
theorem step_app {ops : Array Oper} {o : Oper} {a : Act} {K : Act → World → Prop} {Q : Exit → Act → World → Prop} {E : Prop} (hgd : o.guard = none) (s x : Operand) (t : TypeId)
    (ho : o.op = .call { callee := .builtin .append, args := #[s, x], argTypes := #[t, t] })
    (e : TypeId) (i : TypeInfo) (z : Value) (size bytes : Nat) (ht : P.underlying t = some (.slice e)) (hi : P.info? e = some i) (hz : i.zero = some z)
    (hsize : i.size = size) (hby : i.bytes = bytes) (hzs : z.cells.size = size) (hsz : 0 < size)
    (base : Nat) (v : Value) (n : Nat) (xs : List Value) (hs : a.eval s = v) (hown : w.ownsRow base e size v n xs) (lo h' : Nat) (A : Option Addr) (m c : Nat) (news : List Value) (hx : a.eval x = .slice A m c) (hl : news.length = m * size) (hr : Rd w lo h' A news) (h1 : ∀ u ∈ news, u.oneCell' = true)
    (h63 : n + m ≤ maxLen) (hbytes : (n + m) * bytes ≤ 140737488355328) (hbase : base ≤ w.heap.size)
    (h : ∀ v' w', w'.ownsRow base e size v' (n + m) (xs ++ news) → (∀ b, Ext b w → b.heap.size ≤ base → Ext b w') → (v'.ownBlock = v.ownBlock ∨ v'.ownBlock = some w.heap.size) → w.grownBy w' v.ownBlock → K (a.put o.dst v') w') : if Region.wanted o (yielded ops a.tmps) = true then Oper.wp P o a w K Q else E :=
  step_append_any w hgd s x t ho base e i z size bytes ht hi hz hsize hby hzs hsz v n xs hs hown lo h' A m c news hx hl hr h1 h63 hbytes hbase
    fun v' w' h2 h3 h4 => h v' w' h2 (fun _ hb hle => ext_grown hb hown h3 hle) h4 h3
/-- 'append(nil, l...)': a row of the call's own; all that was there stays -/
theorem list_app0 {ops : Array Oper} {rest : List Oper} {o : Oper} {a : Act} {Q : Exit → Act → World → Prop} (hgd : o.guard = none) (s x : Operand) (t : TypeId)
    (ho : o.op = .call { callee := .builtin .append, args := #[s, x], argTypes := #[t, t] })
    (e : TypeId) (i : TypeInfo) (z : Value) (size bytes : Nat) (ht : P.underlying t = some (.slice e)) (hi : P.info? e = some i) (hz : i.zero = some z)
    (hsize : i.size = size) (hby : i.bytes = bytes) (hzs : z.cells.size = size) (hsz : 0 < size)
    (hs : a.eval s = .slice none 0 0) (lo h' : Nat) (A : Option Addr) (m c : Nat) (news : List Value) (hx : a.eval x = .slice A m c) (hl : news.length = m * size) (hr : Rd w lo h' A news) (h1 : ∀ u ∈ news, u.oneCell' = true)
    (h63 : m ≤ maxLen) (hbytes : m * bytes ≤ 140737488355328)
    (h : ∀ v' w', w'.ownsRow w.heap.size e size v' m news → Ext w w' → wpList P ops Q rest (a.put o.dst v') w') : wpList P ops Q (o :: rest) a w :=
  wpList_append_any w hgd s x t ho w.heap.size e i z size bytes ht hi hz hsize hby hzs hsz (.slice none 0 0) 0 [] hs (World.ownsRow_nil w _ _ _) lo h' A m c news hx hl hr h1 (by rw [Nat.zero_add]; exact h63) (by rw [Nat.zero_add]; exact hbytes) (Nat.le_refl _)
    fun v' w' h2 h3 _ => h v' w' (by rw [Nat.zero_add, List.nil_append] at h2; exact h2) (ext_grown (Ext.refl w) (World.ownsRow_nil w w.heap.size e size) h3 (Nat.le_refl _))
/-- 'append(v, l...)', v a row of the call's own -/
theorem list_app {ops : Array Oper} {rest : List Oper} {o : Oper} {a : Act} {Q : Exit → Act → World → Prop} (hgd : o.guard = none) (s x : Operand) (t : TypeId)
    (ho : o.op = .call { callee := .builtin .append, args := #[s, x], argTypes := #[t, t] })
    (e : TypeId) (i : TypeInfo) (z : Value) (size bytes : Nat) (ht : P.underlying t = some (.slice e)) (hi : P.info? e = some i) (hz : i.zero = some z)
    (hsize : i.size = size) (hby : i.bytes = bytes) (hzs : z.cells.size = size) (hsz : 0 < size)
    (base : Nat) (v : Value) (n : Nat) (xs : List Value) (hs : a.eval s = v) (hown : w.ownsRow base e size v n xs) (lo h' : Nat) (A : Option Addr) (m c : Nat) (news : List Value) (hx : a.eval x = .slice A m c) (hl : news.length = m * size) (hr : Rd w lo h' A news) (h1 : ∀ u ∈ news, u.oneCell' = true)
    (h63 : n + m ≤ maxLen) (hbytes : (n + m) * bytes ≤ 140737488355328) (hbase : base ≤ w.heap.size)
    (h : ∀ v' w', w'.ownsRow base e size v' (n + m) (xs ++ news) → (∀ b, Ext b w → b.heap.size ≤ base → Ext b w') → (v'.ownBlock = v.ownBlock ∨ v'.ownBlock = some w.heap.size) → w.grownBy w' v.ownBlock → wpList P ops Q rest (a.put o.dst v') w') : wpList P ops Q (o :: rest) a w :=
  wpList_append_any w hgd s x t ho base e i z size bytes ht hi hz hsize hby hzs hsz v n xs hs hown lo h' A m c news hx hl hr h1 h63 hbytes hbase
    fun v' w' h2 h3 h4 => h v' w' h2 (fun _ hb hle => ext_grown hb hown h3 hle) h4 h3
end
/-- a slice's length, of a value -/
def slen : Value → Nat
  | .slice _ n _ => n
  | _ => 0
theorem Rd.shift {w : World} {lo hi : Nat} {A : Option Addr} {cs : List Value} (h : Rd w lo hi A cs) (k : Nat) : Rd w lo hi (A.map fun x => { block := x.block, off := x.off + k }) (cs.drop k) := fun hn => by
  obtain ⟨b, o, e, h1, h2, h3⟩ := h.drop k hn
  cases A with
  | none => simp at e
  | some a =>
    have hk : cs ≠ [] := fun e => by rw [e] at hn; simp at hn
    obtain ⟨b', o', e', _⟩ := h hk
    obtain rfl : a = ⟨b', o', none⟩ := by simpa using e'
    simp [add_lit] at e
    obtain ⟨rfl, rfl⟩ := e
    exact ⟨_, _, rfl, h1, h2, h3⟩
theorem below_setCells {B : Nat} {a : World} (b : Nat) : ∀ (vs : List Value) (o : Nat) (w : World), Below B a w → B ≤ b → Below B a (w.setCells b o vs)
  | [], _, _, h, _ => h
  | v :: r, o, _, h, hb => below_setCells b r (o + 1) _ (h.setCell (p := ⟨b, o, none⟩) hb v) hb
section
variable {P : Program} (w : World)
/-- 'clear(s)': s's cells hold zeros; what lies below its block stays -/
theorem list_clear {ops : Array Oper} {rest : List Oper} {o : Oper} {a : Act} {Q : Exit → Act → World → Prop} (hgd : o.guard = none) (x : Operand) (t : TypeId)
    (ho : o.op = .call { callee := .builtin .clear, args := #[x], argTypes := #[t] }) (e : TypeId) (z : Value) (ht : P.underlying t = some (.slice e)) (hv : ∀ w, (zeroValue e).run P w = .ok z w)
    (h1 : ∀ u ∈ z.cells.toList, u.oneCell' = true) (hz : 0 < z.cells.size) (A : Option Addr) (n c : Nat) (hx : a.eval x = .slice A n c) (hc : 0 < n → ∃ b k, A = some ⟨b, k, none⟩ ∧ Can w b k (n * z.cells.size))
    (h : ∀ w', (∀ B a', Below B a' w → (∀ b k, A = some ⟨b, k, none⟩ → B ≤ b) → Below B a' w') → wpList P ops Q rest (a.put o.dst (.tuple #[])) w') : wpList P ops Q (o :: rest) a w := by
  have hrun : ∃ w', (Builtin.clear_ #[t] o.type #[.slice A n c]).run P w = .ok (.tuple #[]) w' ∧ (∀ B a', Below B a' w → (∀ b k, A = some ⟨b, k, none⟩ → B ≤ b) → Below B a' w') := by
    cases n with
    | zero =>
      refine ⟨w, ?_, fun B a' hb _ => hb⟩
      cases A <;> simp [Builtin.clear_, run_underlying ht]
    | succ n =>
      obtain ⟨b, k, rfl, hcan⟩ := hc (by omega)
      have hl : (Builtin.zeroCells z.cells (n + 1)).toList.length = (n + 1) * z.cells.size := by simp [Builtin.zeroCells]
      have hst := run_storeCells_cells (P := P) b k (Builtin.zeroCells z.cells (n + 1)).toList 0 w (fun j hj => by
          obtain ⟨⟨u, hu⟩, _⟩ := hcan j (by rw [← hl]; exact hj)
          rw [Nat.add_zero, hu]
          rfl) (fun j hj => by rw [Nat.add_zero]; exact (hcan j (by rw [← hl]; exact hj)).2) (fun v hv' => by
          simp only [Builtin.zeroCells, Array.toList_map, List.mem_map] at hv'
          obtain ⟨i, _, rfl⟩ := hv'
          refine h1 _ ?_
          rw [getElem!_pos z.cells (i % z.cells.size) (Nat.mod_lt _ hz)]
          exact Array.getElem_mem_toList _)
      refine ⟨w.setCells b (k + 0) (Builtin.zeroCells z.cells (n + 1)).toList, ?_, fun B a' hb hlt => below_setCells b _ _ _ hb (hlt b k rfl)⟩
      simp [Builtin.clear_, run_underlying ht, hv, hst]
  obtain ⟨w', hr, hb⟩ := hrun
  refine wpList_plain hgd fun K hK => ?_
  unfold Oper.wp execOp
  simp only [ho, resolve, invoke, builtin, Sem.run_bind, Sem.run_pure, Result.andThen_ok, List.map_toArray, List.map_cons, List.map_nil, hx, hr]
  exact hK _ _ (h w' hb)
end
theorem Rd.setCell_before {w : World} {lo hi g p q : Nat} {cs : List Value} (h : Rd w lo hi (some ⟨g, p, none⟩) cs) (hq : q < p) (u : Value) : Rd (w.setCell ⟨g, q, none⟩ u) lo hi (some ⟨g, p, none⟩) cs := fun hn => by
  obtain ⟨b, o, e, h1, h2, h3⟩ := h hn
  obtain ⟨rfl, rfl⟩ : g = b ∧ p = o := by simpa using e
  exact ⟨g, p, rfl, h1, h2, fun j v hv => (World.cell?_setCell_other w _ _ _ (fun e => by injection e with _ e2; omega)).trans (h3 j v hv)⟩
theorem Rd.step {w : World} {lo hi g p : Nat} {cs : List Value} (h : Rd w lo hi (some ⟨g, p, none⟩) cs) (k : Nat) : Rd w lo hi (some ⟨g, p + k, none⟩) (cs.drop k) := by
  have := h.drop k
  simpa [add_lit] using this
/-- the address behind 's[k:]': at the capacity's end the old one -/
def shiftA (A : Option Addr) (c k size : Nat) : Option Addr := if c = k then A else A.map (·.add (k * size))
theorem Rd.from_ {w : World} {lo hi n c k size : Nat} {A : Option Addr} {cs : List Value} (h : Rd w lo hi A cs) (hl : cs.length = n * size) (hk : k ≤ n) (hc : n ≤ c) : Rd w lo hi (shiftA A c k size) (cs.drop (k * size)) := by
  unfold shiftA
  by_cases e : c = k
  · have : cs.drop (k * size) = [] := List.drop_eq_nil_of_le (by rw [hl, show n = k from by omega]; exact Nat.le_refl _)
    rw [this]
    exact Rd.nil
  · rw [if_neg e]
    exact h.drop _
theorem run_slice_from {P : Program} (w : World) (t e : TypeId) (i : TypeInfo) (size : Nat) (ht : P.underlying t = some (.slice e)) (hi : P.info? e = some i) (hs : i.size = size) (A : Option Addr) (n c k : Nat) (K : Int) (hK : K = (k : Int)) (hk : k ≤ n) :
    (Instr.slice t (.slice A n c) (some (.int .i64 K)) none none).run P w = .ok (.slice (shiftA A c k size) (n - k) (c - k)) w := by
  subst hK
  subst hs
  have h0 : ¬ ((k : Int) < 0) := by omega
  have h1 : ¬ ((n : Int) < (k : Int)) := by omega
  have hb : (Instr.sliceBounds true n c (some (.int .i64 (k : Int))) none none).run P w = .ok (k, n, c) w := by
    simp [Instr.sliceBounds, run_sliceBound (P := P) w .i64 (k : Int) n .sliceB (by omega) (by omega)]
  simp [Instr.slice, run_underlying ht, hb, sizeOf, typeInfo, hi, shiftA]
end Go.Proofs.YtckaneapjpiocaaGreatDoor
/- From a walk ('it returns true, and what was there stays') to a law's row, whatever the law. -/
namespace Go.Proofs.YtckaneapjpiocaaGreatDoor
open Go.RowKit Go.ChangeShapes Go.WideShapes Go.Deep Go.Joins

section
variable {H : Type} {enc : TypeId × Value → H} {P : Program}
theorem trodAll_stays (hl : laidOutB P = true) {W W' : World} (hb : Ext W W') {sp : Nat → Bool} : ∀ (ts : List TypeId) (vs : List Value) (ds : List (DataW H)) (ps : List MemPlace),
    (∀ t ∈ ts, P.readableRec t = true ∧ t < P.types.size) → DataW.TrodAll enc P W 0 (fun _ => true) true ts vs ds ps → (∀ x ∈ ps, x.block < W.heap.size) → (∀ x ∈ ps, sp x.block = true) →
    DataW.TrodAll enc P W' 0 sp true ts vs ds ps
  | [], [], [], _, _, h, _, _ => h
  | t :: ts, v :: vs, d :: ds, _, hts, h, hlt, hsp => by
    obtain ⟨p, q, h1, h2, rfl⟩ := h
    have ht := hts t (by simp)
    refine ⟨p, q, WideElems.Trod_stays hl ht.1 ht.2 h1 (fun x hx => Below.same hb (hlt x (by simp [hx]))) (fun x hx => hsp x (by simp [hx])),
      trodAll_stays hl hb ts vs ds q (fun t' h' => hts t' (by simp [h'])) h2 (fun x hx => hlt x (by simp [hx])) (fun x hx => hsp x (by simp [hx])), rfl⟩
  | [], [], _ :: _, _, _, h, _, _ => h.elim
  | [], _ :: _, _, _, _, h, _, _ => h.elim
  | _ :: _, [], _, _, _, h, _, _ => h.elim
  | _ :: _, _ :: _, [], _, _, h, _, _ => h.elim

/-- The row's promise, out of 'it returns true, and what was there stays'. -/
theorem law_post {f : Func} {s : ChangeSpec} {W W' : World} {args : Array Value} {ds gs : List (DataW H)} {before : List MemPlace} {tb : TypeId} (hv : s.vars = [])
    (hW : DataW.Whole enc P f.params.toList s.vars false W args.toList ds gs before) (hl : laidOutB P = true) (hts : f.params.toList.all (fun t => P.readableRec t && decide (t < P.types.size)) = true)
    (hr : (s.fn H (ds ++ gs)).results = [.lit (.bool true)]) (ha : (s.fn H (ds ++ gs)).args = ds) (hvs : (s.fn H (ds ++ gs)).vars = []) (ht : f.resultTypes = #[tb]) (hu : P.underlying tb = some .bool) (hb : Ext W W') :
    s.post enc P f false true false false W args (.bool true) W' := by
  have hlt : ∀ p ∈ before, p.block < W.heap.size := fun p hp => hW.lt p hp
  obtain ⟨p, q, hA, hV, rfl, hz, hn⟩ := id hW
  rw [hv] at hV
  obtain ⟨_, rfl⟩ := trodVars_none hV
  simp only [List.append_nil] at hlt
  have hts' : ∀ t ∈ f.params.toList, P.readableRec t = true ∧ t < P.types.size := fun t h => by
    have := List.all_eq_true.1 hts t h
    simpa using this
  refine ⟨ds, gs, p ++ [], [], p, [], hW, ?_, ?_, ?_, ?_, fun h => by cases h⟩
  · rw [hr, ht]
    exact trodAll_mk1 (shut_bool hu true)
  · rw [ha]
    exact trodAll_stays hl hb _ _ _ _ hts' hA hlt (fun x hx => by simpa using hlt x hx)
  · rw [hvs, hv]
    rfl
  · exact World.keptBut_mono (fun x hx => ⟨by simpa using hx, Or.inr (Or.inl hx)⟩) (Below.frame hb (· ∈ p))
end

section
variable {H : Type} {enc : TypeId × Value → H} {P : Program} {w : World} {base : Nat} {spare : Nat → Bool} {held : Bool}
theorem open_slice_fields {t e : TypeId} {fs : Array Field} {fuel : Nat} {cs : List Value} {x : DataW H × List MemPlace} (ht : P.underlying t = some (.slice e)) (he : P.underlying e = some (.struct fs))
    (hone : oneCellFields P fs = true) (hC : P.cellsOf e = fs.size) (h : DataW.trod enc P w base spare held fuel t cs = some x) :
    (cs = [.slice none 0 0] ∧ x = (.nil, [])) ∨
    ∃ (a : Addr) (len cap m : Nat) (D : Nat → DataW H) (Pl : Nat → List MemPlace), cs = [.slice (some a) len cap] ∧ base ≤ a.block ∧ len ≤ cap ∧ cap ≤ maxLen ∧ m = (if spare a.block then cap else len) ∧
      x = (.slice ((List.range len).map D) ((List.range (m - len)).map fun j => D (len + j)), MemPlace.row a (m * fs.size) ++ (List.range m).flatMap Pl) ∧
      ∀ i, i < m → ∃ (ys : List (DataW H × List MemPlace)) (n : Nat), D i = .agg (ys.map (·.1)) ∧ Pl i = ys.flatMap (·.2) ∧ ys.length = fs.size ∧
        ∀ (j : Nat) (f : Field), fs[j]? = some f → ∃ (v : Value) (y : DataW H × List MemPlace), w.cell? (a.add (i * fs.size + j)) = some v ∧ ys[j]? = some y ∧ DataW.trod enc P w base spare held n f.type [v] = some y := by
  rcases open_slice ht h with h0 | ⟨a, len, cap, m, n, D, Pl, hcs, hb, hl, hm, hmm, hx, hi⟩
  · exact .inl h0
  · refine .inr ⟨a, len, cap, m, D, Pl, hcs, hb, hl, hm, hmm, by rw [hC] at hx; exact hx, fun i him => ?_⟩
    obtain ⟨cs', hc, ht'⟩ := hi i him
    rw [hC] at hc
    obtain ⟨ys, n', hn', hy, hlen, hyl, hf⟩ := DataW.trod_struct he ht'
    obtain ⟨_, hcl, hat⟩ := World.cells?_some hc
    simp only [Prod.mk.injEq] at hy
    refine ⟨ys, n', hy.1, hy.2, hyl, fun j f hj => ?_⟩
    obtain ⟨ho, hk⟩ := hone_of hone j f hj
    have hjl : j < fs.size := (Array.getElem?_eq_some_iff.1 hj).1
    have hcell := hat j hjl
    have hv : cs'[j]? = some (cs'[j]'(by omega)) := List.getElem?_eq_getElem (by omega)
    have h1 := hf j f hj
    rw [ho, hk] at h1
    have hone' : (cs'.drop j).take 1 = [cs'[j]'(by omega)] := by
      rw [List.drop_eq_getElem_cons (by omega)]
      rfl
    rw [hone'] at h1
    have hys : ys[j]? = some (ys[j]'(by omega)) := List.getElem?_eq_getElem (by omega)
    refine ⟨_, _, ?_, hys, h1.trans hys⟩
    rw [← Go.Deep.add_add, hcell, hv]

/-- the cells of a slice that came in stand at a plain address -/
theorem addr_plain {w : World} {a : Addr} {n : Nat} {v : Value} (h : w.cell? (a.add n) = some v) (h0 : ∃ u, w.cell? a = some u) : a = ⟨a.block, a.off, none⟩ := by
  obtain ⟨u, hu⟩ := h0
  obtain ⟨b, o, s⟩ := a
  unfold World.cell? at hu
  cases s with
  | none => rfl
  | some s =>
    simp at hu
    split at hu <;> simp at hu
theorem block_lt_of_cell {w : World} {a : Addr} {v : Value} (h : w.cell? a = some v) : a.block < w.heap.size := World.block_lt_of_cell? w a h
end
theorem wf_i64_bd {n : Int} (h : (Lit.int .i64 n).wf = true) : -9223372036854775808 ≤ n ∧ n ≤ 9223372036854775807 := by
  have h1 : IntKind.i64.min = -9223372036854775808 := rfl
  have h2 : IntKind.i64.max = 9223372036854775807 := rfl
  simp only [Lit.wf, Bool.and_eq_true, decide_eq_true_eq] at h
  omega
theorem length_le_reach {n b r : Nat} (h : n * b ≤ r) (hb : 1 ≤ b) : n ≤ r := Nat.le_trans (Nat.le_mul_of_pos_right n hb) h
end Go.Proofs.YtckaneapjpiocaaGreatDoor
/- Arguments that come in: a list of texts, octets: as lists. -/
namespace Go.Proofs.YtckaneapjpiocaaGreatDoor
open Go.RowKit Go.ChangeShapes Go.WideShapes Go.Deep Go.Joins
section
variable {H : Type} {enc : TypeId × Value → H} {P : Program} {w : World} {spare : Nat → Bool} {held : Bool}
theorem plain_of_cells {w : World} {a : Addr} {cs : List Value} (h : ∀ i u, cs[i]? = some u → w.cell? (a.add i) = some u) : Rd w 0 w.heap.size (some a) cs := fun hn => by
  have hl : 0 < cs.length := by
    rcases Nat.eq_zero_or_pos cs.length with h0 | h0
    · exact absurd (List.eq_nil_of_length_eq_zero h0) hn
    · exact h0
  have h0 := h 0 _ (List.getElem?_eq_getElem hl)
  have h0' : w.cell? a = some (cs[0]'hl) := by simpa [Addr.add] using h0
  have ha := addr_plain h0 ⟨_, h0'⟩
  refine ⟨a.block, a.off, by rw [← ha], Nat.zero_le _, block_lt_of_cell h0', fun j u hj => ?_⟩
  have := h j u hj
  rw [ha, add_lit] at this
  exact this
/-- a list of texts that came in -/
theorem open_texts {r : Reach} {b0 : Nat} {t e : TypeId} (ht : P.underlying t = some (.slice e)) (he : P.underlying e = some .string) (hc : P.cellsOf e = 1) {v : Value} {d : DataW H} {p : List MemPlace} (hv : Value.okWide P w r b0 t v) (h : DataW.Trod enc P w 0 spare held t v d p) :
    ∃ (A : Option Addr) (n c : Nat) (l : List ByteArray), v = .slice A n c ∧ n = l.length ∧ n ≤ c ∧ c ≤ maxLen ∧ Rd w 0 w.heap.size A (l.map Value.string) ∧ (∀ s ∈ l, s.size ≤ maxLen) ∧
      ((n = 0 ∧ l = []) ∨ ∃ elems sp, d = .slice elems sp ∧ n ≤ elems.length + sp.length ∧ ∀ s ∈ l, DataW.lit (.string s.data.toList) ∈ elems) := by
  obtain ⟨A, n, c, rfl⟩ := okWide_slice ht hv
  obtain ⟨fuel, hf⟩ := h
  rcases open_strings ht he hc (by simpa [Value.cells] using hf) with ⟨hcs, _⟩ | ⟨a, len, cap, ss, hcs, _, hl, hm, hz, hx, hcell, hws⟩
  · simp only [List.cons.injEq, Value.slice.injEq, and_true] at hcs
    obtain ⟨rfl, rfl, rfl⟩ := hcs
    exact ⟨none, 0, 0, [], rfl, rfl, Nat.le_refl _, Nat.zero_le _, Rd.nil, fun _ h => by simp at h, .inl ⟨rfl, rfl⟩⟩
  · simp only [List.cons.injEq, Value.slice.injEq, and_true] at hcs
    obtain ⟨rfl, rfl, rfl⟩ := hcs
    have hle : n ≤ ss.length := by rw [hz]; split <;> omega
    refine ⟨some a, n, c, ss.take n, rfl, by rw [List.length_take]; omega, hl, hm, plain_of_cells fun i u hi => ?_, fun s hs => hws s (List.mem_of_mem_take hs), .inr ⟨_, _, (Prod.mk.inj hx).1, by simp [strs]; omega, fun s hs => ?_⟩⟩
    · rw [List.getElem?_map] at hi
      have hin : i < n := by
        rcases Nat.lt_or_ge i n with h' | h'
        · exact h'
        · rw [List.getElem?_eq_none (by rw [List.length_take]; omega)] at hi; cases hi
      rw [List.getElem?_take_of_lt hin, List.getElem?_eq_getElem (by omega)] at hi
      rw [hcell i (by omega)]
      simp only [Option.map_some] at hi
      rw [← hi]
      simp [List.getD, List.getElem?_eq_getElem (show i < ss.length by omega)]
    · simp only [strs, List.mem_map]
      exact ⟨s, hs, rfl⟩
/-- octets that came in -/
theorem open_octets {r : Reach} {b0 : Nat} {t e : TypeId} (ht : P.underlying t = some (.slice e)) (he : P.underlying e = some (.int .u8)) (hc : P.cellsOf e = 1) {v : Value} {d : DataW H} {p : List MemPlace} (hv : Value.okWide P w r b0 t v) (h : DataW.Trod enc P w 0 spare held t v d p) :
    ∃ (A : Option Addr) (n c : Nat) (l : List UInt8), v = .slice A n c ∧ n = l.length ∧ n ≤ c ∧ c ≤ maxLen ∧ Rd w 0 w.heap.size A (bytes l) ∧
      (n = 0 ∨ ∃ elems sp, d = .slice elems sp ∧ n ≤ elems.length + sp.length) := by
  obtain ⟨A, n, c, rfl⟩ := okWide_slice ht hv
  obtain ⟨fuel, hf⟩ := h
  rcases open_ints ht he hc (by simpa [Value.cells] using hf) with ⟨hcs, _⟩ | ⟨a, len, cap, zs, hcs, _, hl, hm, hz, hx, hcell, hws⟩
  · simp only [List.cons.injEq, Value.slice.injEq, and_true] at hcs
    obtain ⟨rfl, rfl, rfl⟩ := hcs
    exact ⟨none, 0, 0, [], rfl, rfl, Nat.le_refl _, Nat.zero_le _, Rd.nil, .inl rfl⟩
  · simp only [List.cons.injEq, Value.slice.injEq, and_true] at hcs
    obtain ⟨rfl, rfl, rfl⟩ := hcs
    have hle : n ≤ zs.length := by rw [hz]; split <;> omega
    refine ⟨some a, n, c, (zs.take n).map (fun z => UInt8.ofNat z.toNat), rfl, by simp; omega, hl, hm, plain_of_cells fun i u hi => ?_, .inr ⟨_, _, (Prod.mk.inj hx).1, by simp [lits]; omega⟩⟩
    rw [bytes, List.map_map, List.getElem?_map] at hi
    have hin : i < n := by
      rcases Nat.lt_or_ge i n with h' | h'
      · exact h'
      · rw [List.getElem?_eq_none (by rw [List.length_take]; omega)] at hi; cases hi
    rw [List.getElem?_take_of_lt hin, List.getElem?_eq_getElem (by omega)] at hi
    simp only [Option.map_some, Function.comp] at hi
    rw [hcell i (by omega), ← hi]
    have hwf := hws (zs[i]'(by omega)) (List.getElem_mem _)
    have hb : 0 ≤ zs[i]'(by omega) ∧ zs[i]'(by omega) ≤ 255 := by simpa [Lit.wf, IntKind.min, IntKind.max, IntKind.signed, IntKind.bits] using hwf
    rw [List.getD, List.getElem?_eq_getElem (show i < zs.length by omega), Option.getD_some, UInt8.toNat_ofNat', Nat.mod_eq_of_lt (by omega)]
    congr 2
    omega
end
end Go.Proofs.YtckaneapjpiocaaGreatDoor
/- Arguments that come in, of whatever nested type, as Lean's own data: openers that are put together. -/
namespace Go.Proofs.YtckaneapjpiocaaGreatDoor
open Go.RowKit Go.ChangeShapes Go.WideShapes Go.Deep Go.Joins

/-- a slice's header and what it reads as -/
structure Sl (α : Type) where
  A : Option Addr
  n : Nat
  c : Nat
  xs : List α
def Sl.val {α : Type} (s : Sl α) : Value := .slice s.A s.n s.c
/-- what is said of a slice that came in: its row reads; its elements are so -/
structure Sl.In {α : Type} (P : Program) (w : World) (e : TypeId) (cells : α → List Value) (I : α → Prop) (s : Sl α) : Prop where
  len : s.n = s.xs.length
  le : s.n ≤ s.c
  cap : s.c ≤ maxLen
  bytes : s.n * P.bytesOf e ≤ reachBytes
  rd : Rd w 0 w.heap.size s.A (s.xs.flatMap cells)
  all : ∀ x ∈ s.xs, I x
section
variable {H : Type} {enc : TypeId × Value → H} {P : Program} {w : World} {t e : TypeId} {α β : Type}
/-- Whatever reads as a value of type t within the form's reach are the cells of some datum of which I holds. -/
def Opens (enc : TypeId × Value → H) (P : Program) (w : World) (t : TypeId) (cells : α → List Value) (I : α → Prop) : Prop :=
  ∀ (spare : Nat → Bool) (held : Bool) (fuel : Nat) (cs : List Value) (x : DataW H × List MemPlace), DataW.trod enc P w 0 spare held fuel t cs = some x → (∀ n ∈ x.1.weights P t, n ≤ reachBytes) → ∃ a, cs = cells a ∧ I a
theorem opens_int {k : IntKind} (ht : P.underlying t = some (.int k)) : Opens enc P w t (fun z : Int => [.int k z]) (fun z => k.min ≤ z ∧ z ≤ k.max) := fun _ _ _ _ _ h _ => by
  obtain ⟨n, rfl, _, hw⟩ := DataW.trod_int ht h
  simp only [Lit.wf, Bool.and_eq_true, decide_eq_true_eq] at hw
  exact ⟨n, rfl, hw⟩
theorem opens_bool (ht : P.underlying t = some .bool) : Opens enc P w t (fun z : Bool => [.bool z]) (fun _ => True) := fun _ _ _ _ _ h _ => by
  obtain ⟨n, rfl, _⟩ := DataW.trod_bool ht h
  exact ⟨n, rfl, trivial⟩
theorem opens_str (ht : P.underlying t = some .string) : Opens enc P w t (fun s : ByteArray => [.string s]) (fun s => s.size ≤ reachBytes) := fun _ _ _ _ _ h hw => by
  obtain ⟨s, rfl, rfl, _⟩ := DataW.trod_string ht h
  refine ⟨s, rfl, ?_⟩
  have := hw s.data.toList.length (by simp [DataW.weights])
  rw [Array.length_toList] at this
  exact this
theorem Opens.map {cells : α → List Value} {I : α → Prop} {cells' : β → List Value} {I' : β → Prop} (h : Opens enc P w t cells I) (f : α → β) (hc : ∀ a, I a → cells a = cells' (f a)) (hi : ∀ a, I a → I' (f a)) : Opens enc P w t cells' I' := fun _ _ _ _ _ h1 h2 => by
  obtain ⟨a, rfl, ha⟩ := h _ _ _ _ _ h1 h2
  exact ⟨f a, hc a ha, hi a ha⟩
theorem flat_get {cells : α → List Value} {size : Nat} (hs : ∀ a, (cells a).length = size) (xs : List α) (k j : Nat) (hj : j < size) (hk : k < xs.length) : (xs.flatMap cells)[k * size + j]? = (cells xs[k])[j]? := by
  induction xs generalizing k with
  | nil => simp at hk
  | cons x xs ih =>
    rw [List.flatMap_cons]
    cases k with
    | zero => rw [List.getElem?_append_left (by rw [hs]; omega)]; simp
    | succ k =>
      rw [List.getElem?_append_right (by rw [hs, Nat.succ_mul]; omega), hs, show (k + 1) * size + j - size = k * size + j by rw [Nat.succ_mul]; omega, ih k (by simpa using hk)]
      simp
theorem flat_length {cells : α → List Value} {size : Nat} (hs : ∀ a, (cells a).length = size) (xs : List α) : (xs.flatMap cells).length = xs.length * size := by
  induction xs with
  | nil => simp
  | cons x xs ih => rw [List.flatMap_cons, List.length_append, ih, hs, List.length_cons, Nat.succ_mul]; omega
theorem weights_all {l : List (DataW H)} {d : DataW H} (h : d ∈ l) : ∀ n ∈ d.weights P e, n ∈ DataW.weightsAll P e l := by
  induction l with
  | nil => cases h
  | cons x l ih =>
    intro n hn
    simp only [DataW.weightsAll, List.mem_append]
    rcases List.mem_cons.1 h with rfl | h
    · exact .inl hn
    · exact .inr (ih h n hn)
theorem opens_slice (size : Nat) {cells : α → List Value} {I : α → Prop} (ht : P.underlying t = some (.slice e)) (hC : P.cellsOf e = size) (h0 : 0 < size) (hs : ∀ a, (cells a).length = size) (el : Opens enc P w e cells I) :
    Opens enc P w t (fun s : Sl α => [s.val]) (Sl.In P w e cells I) := fun spare held fuel cs x h hw => by
  subst hC
  rcases open_slice ht h with ⟨rfl, rfl⟩ | ⟨a, len, cap, m, n, D, Pl, rfl, _, hl, hm, hmm, rfl, hi⟩
  · exact ⟨⟨none, 0, 0, []⟩, rfl, ⟨rfl, Nat.le_refl _, Nat.zero_le _, by simp, Rd.nil, fun _ h => by simp at h⟩⟩
  · have hnm : len ≤ m := by rw [hmm]; split <;> omega
    have hb : len * P.bytesOf e ≤ reachBytes := by
      have := hw _ (by simp only [DataW.weights, ht]; exact List.mem_cons_self)
      simp only [List.length_map, List.length_range] at this
      exact Nat.le_trans (Nat.mul_le_mul_right _ (by omega)) this
    rcases Nat.eq_zero_or_pos len with hlen | hlen
    · subst hlen
      exact ⟨⟨some a, 0, cap, []⟩, rfl, ⟨rfl, hl, hm, hb, Rd.nil, fun _ h => by simp at h⟩⟩
    · have one : ∀ i, i < len → ∃ y : α, I y ∧ ∀ j u, (cells y)[j]? = some u → w.cell? (a.add (i * P.cellsOf e + j)) = some u := by
        intro i hil
        obtain ⟨cs', hc, ht'⟩ := hi i (by omega)
        obtain ⟨y, rfl, hy⟩ := el _ _ _ _ _ ht' (fun n hn => hw n (by
          simp only [DataW.weights, ht, List.mem_cons, List.mem_append]
          exact .inr (.inl (weights_all (List.mem_map_of_mem (List.mem_range.2 hil)) n hn))))
        obtain ⟨_, _, hat⟩ := World.cells?_some hc
        refine ⟨y, hy, fun j u hu => ?_⟩
        have hj : j < P.cellsOf e := by
          have := (List.getElem?_eq_some_iff.1 hu).1
          rwa [hs] at this
        rw [← Go.Deep.add_add, hat j hj, hu]
      have key : ∀ i, ∃ y : α, i < len → I y ∧ ∀ j u, (cells y)[j]? = some u → w.cell? (a.add (i * P.cellsOf e + j)) = some u := by
        intro i
        by_cases hil : i < len
        · obtain ⟨y, h1, h2⟩ := one i hil
          exact ⟨y, fun _ => ⟨h1, h2⟩⟩
        · obtain ⟨y, _⟩ := one 0 hlen
          exact ⟨y, fun h => absurd h hil⟩
      obtain ⟨g, hg⟩ := Classical.axiomOfChoice key
      refine ⟨⟨some a, len, cap, (List.range len).map g⟩, rfl, ⟨by simp, hl, hm, hb, plain_of_cells fun i u hu => ?_, fun x hx => ?_⟩⟩
      · have hil : i < len * P.cellsOf e := by
          have := (List.getElem?_eq_some_iff.1 hu).1
          rw [flat_length hs] at this
          simpa using this
        have hk : i / P.cellsOf e < len := Nat.div_lt_of_lt_mul (by rw [Nat.mul_comm]; exact hil)
        have hij : i / P.cellsOf e * P.cellsOf e + i % P.cellsOf e = i := Nat.div_add_mod' i (P.cellsOf e)
        rw [← hij, flat_get hs _ _ _ (Nat.mod_lt _ h0) (by simpa using hk)] at hu
        simp only [List.getElem_map, List.getElem_range] at hu
        rw [← hij]
        exact (hg _ hk).2 _ u hu
      · simp only [List.mem_map, List.mem_range] at hx
        obtain ⟨i, hil, rfl⟩ := hx
        exact (hg i hil).1
/-- the fields of a struct, from one on, whose cells stand from off on; L cells in all -/
def OpensF (enc : TypeId × Value → H) (P : Program) (w : World) (L : Nat) (fs : List Field) (off : Nat) (cells : α → List Value) (I : α → Prop) : Prop :=
  ∀ (spare : Nat → Bool) (held : Bool) (fuel : Nat) (cs : List Value) (ys : List (DataW H × List MemPlace)), cs.length = L → ys.length = fs.length →
    (∀ (i : Nat) (f : Field), fs[i]? = some f → DataW.trod enc P w 0 spare held fuel f.type ((cs.drop f.offset).take (P.cellsOf f.type)) = ys[i]?) →
    (∀ n ∈ DataW.weightsEach P (fs.map (·.type)) (ys.map (·.1)), n ≤ reachBytes) → ∃ a, cs.drop off = cells a ∧ I a
theorem OpensF.nil {L : Nat} : OpensF enc P w L [] L (fun _ : Unit => []) (fun _ => True) := fun _ _ _ cs _ hl _ _ _ => ⟨(), List.drop_eq_nil_of_le (by omega), trivial⟩
theorem OpensF.cons (size : Nat) {L off : Nat} {f : Field} {fs : List Field} {cells : α → List Value} {I : α → Prop} {cells' : β → List Value} {I' : β → Prop} (h : Opens enc P w f.type cells I) (ho : f.offset = off) (hc : P.cellsOf f.type = size)
    (r : OpensF enc P w L fs (off + size) cells' I') : OpensF enc P w L (f :: fs) off (fun x : α × β => cells x.1 ++ cells' x.2) (fun x => I x.1 ∧ I' x.2) := fun spare held fuel cs ys hl hy hf hw => by
  subst ho hc
  cases ys with
  | nil => simp at hy
  | cons y ys =>
    obtain ⟨a, ha, hi⟩ := h _ _ _ _ y (hf 0 f rfl) (fun n hn => hw n (by simp only [List.map_cons, DataW.weightsEach, List.mem_append]; exact .inl hn))
    obtain ⟨b, hb, hj⟩ := r spare held fuel cs ys hl (by simpa using hy) (fun i g hg => hf (i + 1) g hg) (fun n hn => hw n (by simp only [List.map_cons, DataW.weightsEach, List.mem_append]; exact .inr hn))
    refine ⟨(a, b), ?_, hi, hj⟩
    show _ = cells a ++ cells' b
    rw [← ha, ← hb, ← List.drop_drop, List.take_append_drop]
theorem opens_struct {L : Nat} {fs : Array Field} {cells : α → List Value} {I : α → Prop} (hu : P.underlying t = some (.struct fs)) (hL : P.cellsOf t = L) (hF : OpensF enc P w L fs.toList 0 cells I) : Opens enc P w t cells I := fun spare held fuel cs x h hw => by
  obtain ⟨ys, n, _, rfl, hlen, hyl, hf⟩ := DataW.trod_struct hu h
  obtain ⟨a, ha, hi⟩ := hF spare held n cs ys (hlen.trans hL) (by simpa using hyl) (fun i f hif => hf i f (by simpa using hif)) (fun n hn => hw n (by simp only [DataW.weights, hu]; exact hn))
  exact ⟨a, by simpa using ha, hi⟩
/-- a parameter that is a struct -/
theorem Opens.param_struct {fs : Array Field} {cells : α → List Value} {I : α → Prop} (h : Opens enc P w t cells I) (hu : P.underlying t = some (.struct fs)) {r : Reach} {b0 : Nat} {spare : Nat → Bool} {held : Bool} {v : Value} {d : DataW H} {p : List MemPlace}
    (hv : Value.okWide P w r b0 t v) (ht : DataW.Trod enc P w 0 spare held t v d p) (hw : ∀ n ∈ d.weights P t, n ≤ reachBytes) : ∃ a, v = .agg (cells a).toArray ∧ I a := by
  obtain ⟨cs, rfl, _⟩ := okWide_struct hu hv
  obtain ⟨fuel, hf⟩ := ht
  obtain ⟨a, ha, hi⟩ := h _ _ _ _ _ hf hw
  exact ⟨a, by rw [← ha]; rfl, hi⟩
/-- a parameter that is a slice -/
theorem Opens.param_slice {I : Sl α → Prop} (h : Opens enc P w t (fun s : Sl α => [s.val]) I) (ht : P.underlying t = some (.slice e)) {r : Reach} {b0 : Nat} {spare : Nat → Bool} {held : Bool} {v : Value} {d : DataW H} {p : List MemPlace}
    (hv : Value.okWide P w r b0 t v) (htr : DataW.Trod enc P w 0 spare held t v d p) (hw : ∀ n ∈ d.weights P t, n ≤ reachBytes) : ∃ s : Sl α, v = s.val ∧ I s := by
  obtain ⟨A, n, c, rfl⟩ := okWide_slice ht hv
  obtain ⟨fuel, hf⟩ := htr
  obtain ⟨a, ha, hi⟩ := h _ _ _ _ _ hf hw
  exact ⟨a, by simpa [Value.cells] using ha, hi⟩
theorem weights_arg {ts : List TypeId} {ds : List (DataW H)} (h : (DataW.weightsEach P ts ds).all (· ≤ reachBytes) = true) {j : Nat} {d : DataW H} (ht : ts[j]? = some t) (hd : ds[j]? = some d) : ∀ n ∈ d.weights P t, n ≤ reachBytes := fun n hn => by
  have := List.all_eq_true.1 h _ (DataW.weights_mem_each ht hd n hn)
  simpa using this
end
end Go.Proofs.YtckaneapjpiocaaGreatDoor
