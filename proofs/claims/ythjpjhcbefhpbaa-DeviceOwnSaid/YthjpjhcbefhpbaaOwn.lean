/- A device of the call's own: its row of sectors may be written, its row of writes appended to. -/
import Derived.Test.YthjpjhcbefhpbaaNew
namespace Go.Proofs.Ythjpjhcbefhpbaa
open Go.RowKit

/-- a row's value and an address: not of one block -/
def Ap (v : Value) (s : Oct) : Prop := s.xs ≠ [] → ∀ b o, s.A = some ⟨b, o, none⟩ → v.ownBlock ≠ some b
/-- the row of sectors lies in block g, all else behind it -/
structure Dev.OwnAt (w : World) (lo g : Nat) (d : Dev) : Prop where
  lo_g : lo ≤ g
  g_lt : g < w.heap.size
  secA : d.secs.A = some ⟨g, 0, none⟩
  secn : d.secs.n = d.secs.xs.length
  secc : d.secs.n ≤ d.secs.c
  secm : d.secs.c ≤ maxLen
  row : Wr w g w.heap.size (some ⟨g, 0, none⟩) (d.secs.xs.map Sl.val)
  secs : ∀ s ∈ d.secs.xs, Oct.At w (g + 1) w.heap.size s ∧ Ap d.waits.val s
  wn : d.waits.n = d.waits.xs.length
  own : w.ownsRow (g + 1) 45 2 d.waits.val d.waits.n (d.waits.xs.flatMap Wrt.cells)
  waits : ∀ x ∈ d.waits.xs, Wrt.At w (g + 1) w.heap.size x ∧ Ap d.waits.val x.data
theorem vals_flat (ss : List Oct) : ss.flatMap octv = ss.map Sl.val := by
  induction ss with
  | nil => rfl
  | cons s ss ih => rw [List.flatMap_cons, ih]; rfl
section
variable {w w' : World} {lo g : Nat} {d : Dev}
theorem Dev.OwnAt.ext (h : Dev.OwnAt w lo g d) (e : Ext w w') : Dev.OwnAt w' lo g d :=
  ⟨h.lo_g, Nat.lt_of_lt_of_le h.g_lt e.size, h.secA, h.secn, h.secc, h.secm, h.row.ext e (Nat.le_refl _), fun s hs => ⟨Oct.At.on (h.secs s hs).1 e (Nat.le_refl _), (h.secs s hs).2⟩, h.wn, own_ext h.own e,
    fun x hx => ⟨Wrt.At.imp (h.waits x hx).1 (rd_on e (Nat.le_refl _)), (h.waits x hx).2⟩⟩
theorem own_le {v : Value} {base n : Nat} {e : TypeId} {size : Nat} {cs : List Value} {A : Option Addr} {m c : Nat} (h : w.ownsRow base e size v n cs) (hv : v = .slice A m c) : n = m ∧ m ≤ c ∧ c ≤ maxLen := by
  obtain ⟨A', c', rfl, h1, h2, _⟩ := own_form h
  injection hv with a b c
  subst a b c
  exact ⟨rfl, h1, h2⟩
theorem Dev.OwnAt.at_ (h : Dev.OwnAt w lo g d) : Dev.At w lo w.heap.size d := by
  obtain ⟨h1, h2, h3⟩ := own_le h.own rfl
  refine ⟨⟨h.secn, h.secc, h.secm, ?_, fun s hs => Oct.At.low (h.secs s hs).1 (by have := h.lo_g; omega)⟩, ⟨h.wn, h2, h3, ?_, fun x hx => Wrt.At.imp (h.waits x hx).1 fun _ _ hr => hr.more (by have := h.lo_g; omega) (Nat.le_refl _)⟩⟩
  · rw [vals_flat, h.secA]
    exact (h.row.more h.lo_g (Nat.le_refl _)).rd
  · exact (Rd.of_own h.own).more (by have := h.lo_g; omega) (Nat.le_refl _)
theorem Rd.grown_ne {w w' : World} {lo hi : Nat} {A : Option Addr} {cs : List Value} (h : Rd w lo hi A cs) {v : Value} (hg : w.grownBy w' v.ownBlock) (hB : hi ≤ w.heap.size) (hr : cs ≠ [] → ∀ b o, A = some ⟨b, o, none⟩ → v.ownBlock ≠ some b) : Rd w' lo hi A cs := fun hn => by
  obtain ⟨b, o, e, h1, h2, h3⟩ := h hn
  exact ⟨b, o, e, h1, h2, fun j u hu => (World.cell?_of_block (hg.block b (by omega) (fun e' => hr hn b o e e'.symm))).trans (h3 j u hu)⟩
theorem Wr.grown_ne {w w' : World} {lo hi : Nat} {A : Option Addr} {cs : List Value} (h : Wr w lo hi A cs) {v : Value} (hg : w.grownBy w' v.ownBlock) (hB : hi ≤ w.heap.size) (hr : cs ≠ [] → ∀ b o, A = some ⟨b, o, none⟩ → v.ownBlock ≠ some b) : Wr w' lo hi A cs := fun hn => by
  obtain ⟨b, o, e, h1, h2, h3⟩ := h hn
  have hb := hg.block b (by omega) (fun e' => hr hn b o e e'.symm)
  exact ⟨b, o, e, h1, h2, fun j u hu => ⟨(World.cell?_of_block hb).trans (h3 j u hu).1, (World.frozen?_of_block hb).trans (h3 j u hu).2⟩⟩
theorem octs_ne {s : Oct} (h : s.xs.flatMap octc ≠ []) : s.xs ≠ [] := fun e => h (by rw [e]; rfl)
/-- octets stay where another row grows -/
theorem Oct.At.grown {w w' : World} {lo : Nat} {s : Oct} (h : Oct.At w lo w.heap.size s) {v : Value} (hg : w.grownBy w' v.ownBlock) (hr : Ap v s) : Oct.At w' lo w'.heap.size s :=
  ⟨h.len, h.le, h.cap, (h.rd.grown_ne hg (Nat.le_refl _) fun hn => hr (octs_ne hn)).more (Nat.le_refl _) hg.size, h.all⟩
theorem Oct.At.set_low {w : World} {lo hi : Nat} {s : Oct} (h : Oct.At w lo hi s) {p : Addr} (hp : p.block < lo) (u : Value) : Oct.At (w.setCell p u) lo hi s := Oct.At.imp h fun _ _ hr => hr.setCell_low hp u
/-- octets that stand in a block below one -/
theorem Ap.of_lt {w : World} {lo hi : Nat} {s : Oct} (h : Oct.At w lo hi s) {v : Value} (hv : ∀ b, v.ownBlock = some b → hi ≤ b ∨ b < lo) : Ap v s := fun hn b o hA hb => by
  obtain ⟨b', o', e, h1, h2, _⟩ := h.rd (fun e => hn (by
    have := congrArg List.length e
    rw [flat_length (size := 1) (fun _ => rfl)] at this
    exact List.eq_nil_of_length_eq_zero (by simpa using this)))
  rw [hA] at e
  obtain ⟨rfl, _⟩ : b = b' ∧ o = o' := by simpa using e
  rcases hv b hb with h' | h' <;> omega
theorem own_set {w : World} {base n : Nat} {v : Value} {e : TypeId} {size : Nat} {cs : List Value} (h : w.ownsRow base e size v n cs) {p : Addr} (hp : p.block < base) (u : Value) : (w.setCell p u).ownsRow base e size v n cs := by
  refine ⟨h.1, ?_⟩
  rcases h.2 with h' | ⟨g, cap, cur, h1, h2, h3, h4⟩
  · exact .inl h'
  · exact .inr ⟨g, cap, cur, h1, h2, (Below.heap_setCell _ _ _ _ (by omega)).trans h3, h4⟩
theorem Dev.OwnAt.set_low {w : World} {lo g : Nat} {d : Dev} (h : Dev.OwnAt w lo g d) {p : Addr} (hp : p.block < g) (u : Value) : Dev.OwnAt (w.setCell p u) lo g d := by
  have hs : (w.setCell p u).heap.size = w.heap.size := by simp
  refine ⟨h.lo_g, by rw [hs]; exact h.g_lt, h.secA, h.secn, h.secc, h.secm, by rw [hs]; exact h.row.else_ (by omega) u, fun s hx => ⟨by rw [hs]; exact Oct.At.set_low (h.secs s hx).1 (by omega) u, (h.secs s hx).2⟩, h.wn, own_set h.own (by omega) u,
    fun x hx => ⟨⟨(h.waits x hx).1.p0, (h.waits x hx).1.p1, by rw [hs]; exact Oct.At.set_low (h.waits x hx).1.data (by omega) u⟩, (h.waits x hx).2⟩⟩
end
end Go.Proofs.Ythjpjhcbefhpbaa
