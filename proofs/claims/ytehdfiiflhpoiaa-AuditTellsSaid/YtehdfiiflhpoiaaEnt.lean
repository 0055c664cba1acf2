/- api.Entry: its cells, its equality; a list of them as cells. -/
import Derived.Test.YtehdfiiflhpoiaaLib
namespace Go.Proofs.Ytehdfiiflhpoiaa
open Go.RowKit

theorem info25 : (Try.prog.info? 25).map (fun i => (i.zero, i.size, i.bytes)) = some (some (.agg #[.string .empty, .int .i64 0, .string .empty, .int .i64 0]), 4, 48) := by kernel_rfl

structure Ent where
  user : ByteArray
  kind : Int
  path : ByteArray
  err : Int
def Ent.cells (x : Ent) : List Value := [.string x.user, .int .i64 x.kind, .string x.path, .int .i64 x.err]
def Ent.agg (x : Ent) : Value := .agg #[.string x.user, .int .i64 x.kind, .string x.path, .int .i64 x.err]


def Ent.wf (x : Ent) : Prop := -9223372036854775808 ≤ x.kind ∧ x.kind ≤ 9223372036854775807 ∧ -9223372036854775808 ≤ x.err ∧ x.err ≤ 9223372036854775807
def ents (xs : List Ent) : List Value := xs.flatMap Ent.cells
theorem ents_cons (x : Ent) (xs : List Ent) : ents (x :: xs) = x.cells ++ ents xs := by simp [ents]
theorem ents_append (xs ys : List Ent) : ents (xs ++ ys) = ents xs ++ ents ys := by simp [ents]
theorem ents_length (xs : List Ent) : (ents xs).length = xs.length * 4 := by
  induction xs with
  | nil => rfl
  | cons x xs ih => rw [ents_cons, List.length_append, ih]; simp [Ent.cells]; omega
theorem ents_one (xs : List Ent) : ∀ u ∈ ents xs, u.oneCell' = true := by
  intro u hu
  simp only [ents, List.mem_flatMap, Ent.cells] at hu
  obtain ⟨x, _, h⟩ := hu
  simp at h
  rcases h with rfl | rfl | rfl | rfl <;> rfl
theorem ents_get (xs : List Ent) (k j : Nat) (hj : j < 4) (hk : k < xs.length) : (ents xs)[k * 4 + j]? = xs[k].cells[j]? := by
  induction xs generalizing k with
  | nil => simp at hk
  | cons x xs ih =>
    rw [ents_cons]
    cases k with
    | zero => rw [List.getElem?_append_left (by simp [Ent.cells]; omega)]; simp
    | succ k =>
      rw [List.getElem?_append_right (by simp [Ent.cells]; omega)]
      have : (k + 1) * 4 + j - x.cells.length = k * 4 + j := by simp [Ent.cells]; omega
      rw [this, ih k (by simpa using hk)]
      simp
theorem ents_drop (xs : List Ent) (k : Nat) : (ents xs).drop (k * 4) = ents (xs.drop k) := by
  induction k generalizing xs with
  | zero => simp
  | succ k ih =>
    cases xs with
    | nil => simp [ents]
    | cons x xs =>
      rw [ents_cons, show (k + 1) * 4 = x.cells.length + k * 4 from by simp [Ent.cells]; omega, List.drop_append, List.drop_eq_nil_of_le (by omega)]
      simpa using ih xs
/-- entry k of a row of entries, cell by cell -/
theorem rd_ent {w : World} {lo hi : Nat} {A : Option Addr} {xs : List Ent} (h : Rd w lo hi A (ents xs)) {k : Nat} (hk : k < xs.length) :
    ∃ b o, A = some ⟨b, o, none⟩ ∧ lo ≤ b ∧ b < hi ∧ w.cell? ⟨b, o + k * 4, none⟩ = some (.string xs[k].user) ∧ w.cell? ⟨b, o + k * 4 + 1, none⟩ = some (.int .i64 xs[k].kind) ∧
      w.cell? ⟨b, o + k * 4 + 2, none⟩ = some (.string xs[k].path) ∧ w.cell? ⟨b, o + k * 4 + 3, none⟩ = some (.int .i64 xs[k].err) := by
  obtain ⟨b, o, h1, h2, h3, h4⟩ := h (fun e => by have := ents_length xs; rw [e] at this; simp at this; omega)
  have g : ∀ j, j < 4 → ∀ u, xs[k].cells[j]? = some u → w.cell? ⟨b, o + k * 4 + j, none⟩ = some u := fun j hj u hu => by
    rw [Nat.add_assoc]
    exact h4 _ u (by rw [ents_get xs k j hj hk]; exact hu)
  exact ⟨b, o, h1, h2, h3, g 0 (by omega) _ rfl, g 1 (by omega) _ rfl, g 2 (by omega) _ rfl, g 3 (by omega) _ rfl⟩

def Ent.eqB (x y : Ent) : Bool := x.user.toList == y.user.toList && x.kind == y.kind && x.path.toList == y.path.toList && x.err == y.err
theorem toList_inj {a b : ByteArray} (h : a.toList = b.toList) : a = b := by
  rw [ByteArray.toList_eq, ByteArray.toList_eq] at h
  obtain ⟨⟨x⟩⟩ := a
  obtain ⟨⟨y⟩⟩ := b
  simpa using h
theorem Ent.eqB_iff (x y : Ent) : x.eqB y = true ↔ x = y := by
  constructor
  · intro h
    simp [Ent.eqB] at h
    obtain ⟨⟨⟨h1, h2⟩, h3⟩, h4⟩ := h
    have e1 := toList_inj h1
    have e3 := toList_inj h3
    cases x
    cases y
    simp_all
  · rintro rfl
    simp [Ent.eqB]
theorem str25 : Try.prog.underlying 25 = some (.struct (Try.prog.fieldsOf 25)) := by kernel_rfl
theorem stood25 : Try.prog.stoodInHeld 25 = false := by kernel_rfl
theorem guard25 : Try.prog.eqGuardType Try.prog.depth 25 = false := by kernel_rfl
theorem eq25 (w : World) (a c a' c' : ByteArray) (b d b' d' : Int) :
   (Op.equalIn 10000 25 (.agg #[.string a, .int .i64 b, .string c, .int .i64 d]) (.agg #[.string a', .int .i64 b', .string c', .int .i64 d'])).run Try.prog w
   = .ok (Ent.eqB ⟨a,b,c,d⟩ ⟨a',b',c',d'⟩) w := by
  rw [run_equalIn_agg w 9999 _ _ _ str25 stood25]
  simp [go_sem, Program.fieldsOf, Try.underlying25, Try.underlying9, Try.underlying3, Try.underlying23, Ent.eqB]
  by_cases h1 : a.toList = a'.toList <;> by_cases h2 : b = b' <;> by_cases h3 : c.toList = c'.toList <;> by_cases h4 : d = d' <;> simp [h1, h2, h3, h4]
/-- '!=' of two entries, as the walk spells them -/
theorem neq25 (w : World) (a c a' c' : ByteArray) (b d b' d' : Int) :
   (binOp .neq 25 (.agg #[.string a, .int .i64 b, .string c, .int .i64 d]) (.agg #[.string a', .int .i64 b', .string c', .int .i64 d'])).run Try.prog w
   = .ok (.bool (!(Ent.eqB ⟨a,b,c,d⟩ ⟨a',b',c',d'⟩))) w := by
  rw [run_neq_struct, eq25]
  rfl
theorem guardrun25 (op : BinOp) (x y : Operand) (xs ys : Array Value) (w : World) : (eqGuard op 25 x y (.agg xs) (.agg ys)).run Try.prog w = .ok () w := run_eqGuard_agg w op _ x y xs ys guard25
end Go.Proofs.Ytehdfiiflhpoiaa
