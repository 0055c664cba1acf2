/- right, of any act; a row of acts of the call's own. -/
import Derived.Test.YthjpjhcbefhpbaaRight
import Derived.Test.YthjpjhcbefhpbaaRegm
namespace Go.Proofs.Ythjpjhcbefhpbaa
open Go.RowKit
set_option linter.unusedSimpArgs false
set_option linter.unusedVariables false

abbrev AV := Bool × Int × List UInt8
def Ac.abs (a : Ac) : AV := (a.flush, a.pos, a.data.xs)
/-- octets cut, or filled up with zeros, to 64 -/
def pad64 (l : List UInt8) : List UInt8 := l.take 64 ++ zeros (64 - l.length)
theorem pad64_length (l : List UInt8) : (pad64 l).length = 64 := by simp [pad64, zeros]; omega
def rightV (n : Nat) (a : AV) : AV := if a.1 = true then (true, 0, []) else (false, a.2.1.tmod n % n, pad64 a.2.2)
def okAV (n : Nat) (a : AV) : Prop := a.1 = true ∨ (0 ≤ a.2.1 ∧ a.2.1 < (n : Int) ∧ a.2.2.length = 64)
theorem rightV_ok (n : Nat) (hn : 0 < n) (a : AV) : okAV n (rightV n a) := by
  unfold rightV okAV
  by_cases h : a.1 = true
  · rw [if_pos h]; exact .inl rfl
  · rw [if_neg h]
    obtain ⟨_, _, _, h4, h5⟩ := turnN a.2.1 n hn
    have e : a.2.1.tmod n % n = (a.2.1.tmod n + n) % n := by rw [Int.add_emod_right]
    exact .inr ⟨by show 0 ≤ a.2.1.tmod n % n; rw [e]; exact h4, by show a.2.1.tmod n % n < n; rw [e]; exact h5, pad64_length _⟩
theorem splice_pad (l : List UInt8) : splice (bytes (zeros 64)) 0 (bytes (l.take 64)) = bytes (pad64 l) := by
  unfold splice pad64
  rw [List.take_zero, List.nil_append, bytes_drop, ← bytes_append, bytes_length, Nat.zero_add]
  congr 1
  congr 1
  rw [zeros, List.drop_replicate, List.length_take]
  show List.replicate _ _ = zeros _
  rw [zeros]
  congr 1
  omega
def ActR (w : World) (v : AV) (e : Ending) (w' : World) : Prop := ∃ b : Ac, e = .returned (.agg b.cells.toArray) ∧ b.abs = v ∧ Ac.At w' w.heap.size w'.heap.size b
theorem right_any (w : World) (a : Ac) (n : Nat) (n0 : 0 < n) (n1 : n ≤ 1000) (ha : Ac.At w 0 w.heap.size a) :
    Calls Try.prog 10 #[.agg a.cells.toArray, .int .i64 (n : Int)] w fun e w' => ActR w (rightV n a.abs) e w' ∧ Ext w w' := by
  obtain ⟨fl, p, o⟩ := a
  cases fl
  · refine (right_write w p n o ha.p0 ha.p1 n0 n1 ha.data).mono ?_
    rintro e w' ⟨rfl, hx, hr⟩
    obtain ⟨_, _, _, h4, h5⟩ := turnN p n n0
    rw [Int.add_emod_right] at h4 h5
    refine ⟨⟨⟨false, p.tmod n % n, ⟨some ⟨w.heap.size + 2, 0, none⟩, 64, 64, pad64 o.xs⟩⟩, rfl, rfl, ⟨by show -9223372036854775808 ≤ p.tmod n % n; omega, by show p.tmod n % n ≤ 9223372036854775807; omega, ?_⟩⟩, hx⟩
    refine ⟨(pad64_length _).symm, Nat.le_refl _, by simp [maxLen], ?_, fun _ _ => trivial⟩
    rw [splice_pad] at hr
    rw [octs_flat]
    exact hr
  · refine (right_flush w p n o).mono ?_
    rintro e w' ⟨rfl, hx⟩
    exact ⟨⟨⟨true, 0, ⟨none, 0, 0, []⟩⟩, rfl, rfl, ⟨by decide, by decide, ⟨rfl, Nat.le_refl _, Nat.zero_le _, Rd.nil, fun _ h => by simp at h⟩⟩⟩, hx⟩
/-- a row of acts of the call's own; their octets lie elsewhere -/
structure AcsOwn (w : World) (base : Nat) (v : Value) (l : List Ac) : Prop where
  own : w.ownsRow base 36 3 v l.length (l.flatMap Ac.cells)
  all : ∀ a ∈ l, Ac.At w base w.heap.size a ∧ Ap v a.data
section
variable {w w' : World} {base : Nat} {v v' : Value} {l : List Ac}
theorem Ac.At.imp {lo hi lo' hi' : Nat} {x : Ac} (h : Ac.At w lo hi x) (hr : ∀ A cs, Rd w lo hi A cs → Rd w' lo' hi' A cs) : Ac.At w' lo' hi' x := ⟨h.p0, h.p1, Oct.At.imp h.data hr⟩
theorem Ac.At.on {lo hi : Nat} {d : Ac} (h : Ac.At w lo hi d) (e : Ext w w') (hh : hi ≤ w.heap.size) : Ac.At w' lo w'.heap.size d := h.imp (rd_on e hh)
theorem Ac.At.low {lo hi lo' : Nat} {d : Ac} (h : Ac.At w lo hi d) (hl : lo' ≤ lo) : Ac.At w lo' hi d := h.imp fun _ _ h => h.more hl (Nat.le_refl _)
theorem AcsOwn.nil (w : World) (base : Nat) : AcsOwn w base (.slice none 0 0) [] := ⟨World.ownsRow_nil _ _ _ _, fun _ h => by simp at h⟩
theorem AcsOwn.ext (h : AcsOwn w base v l) (e : Ext w w') : AcsOwn w' base v l := ⟨own_ext h.own e, fun a ha => ⟨(h.all a ha).1.on e (Nat.le_refl _), (h.all a ha).2⟩⟩
theorem AcsOwn.ap (h : AcsOwn w base v l) {w1 : World} {b : Ac} (hb : Ac.At w1 w.heap.size w1.heap.size b) : Ap v b.data :=
  Ap.of_lt hb.data fun k hk => .inr (h.own.lt k hk).2
theorem AcsOwn.push (h : AcsOwn w base v l) {b : Ac} (hb : Ac.At w base w.heap.size b) (ha : Ap v b.data) (o : w'.ownsRow base 36 3 v' (l.length + 1) (l.flatMap Ac.cells ++ b.cells)) (hg : w.grownBy w' v.ownBlock) (hob : v'.ownBlock = v.ownBlock ∨ v'.ownBlock = some w.heap.size) :
    AcsOwn w' base v' (l ++ [b]) := by
  have ap' : ∀ x : Ac, Ac.At w base w.heap.size x → Ap v x.data → Ap v' x.data := fun x hx hap hne b o hA hb => by
    rcases hob with h' | h'
    · exact hap hne b o hA (by rw [← h']; exact hb)
    · exact Ap.of_lt hx.data (v := v') (fun b' hb' => by rw [h'] at hb'; injection hb' with hb'; omega) hne b o hA hb
  have keep : ∀ x : Ac, Ac.At w base w.heap.size x → Ap v x.data → Ac.At w' base w'.heap.size x := fun x hx hap => ⟨hx.p0, hx.p1, Oct.At.grown hx.data hg hap⟩
  refine ⟨by rw [List.length_append, List.flatMap_append]; simpa using o, fun a ha' => ?_⟩
  rcases List.mem_append.1 ha' with h' | h'
  · exact ⟨keep a (h.all a h').1 (h.all a h').2, ap' a (h.all a h').1 (h.all a h').2⟩
  · simp only [List.mem_singleton] at h'
    subst h'
    exact ⟨keep _ hb ha, ap' _ hb ha⟩
theorem AcsOwn.acs (h : AcsOwn w base v l) : ∃ A c, v = .slice A l.length c ∧ l.length ≤ c ∧ c ≤ maxLen ∧ Acs w A l.length c l := by
  obtain ⟨A, c, rfl, h1, h2, _⟩ := own_form h.own
  refine ⟨A, c, rfl, h1, h2, ⟨rfl, ?_, (Rd.of_own h.own).more (Nat.zero_le _) (Nat.le_refl _), fun a ha => (h.all a ha).1.low (Nat.zero_le _)⟩⟩
  have : c ≤ 9223372036854775807 := h2
  omega
end
theorem infoAct : (Try.prog.info? 36).map (fun i => (i.zero, i.size, i.bytes)) = some (some (.agg #[.bool false, .int .i64 0, .slice none 0 0]), 3, 40) := by kernel_rfl
theorem ac_one (b : Ac) : ∀ u ∈ b.cells, u.oneCell' = true := by
  intro u hu
  simp only [Ac.cells, List.mem_cons, List.not_mem_nil, or_false] at hu
  rcases hu with rfl | rfl | rfl <;> rfl
theorem set_ok0 {S : SV} (h : okV S []) (kp : Nat → Bool) : setV kp [] S 0 = S := rfl
theorem doV_abs (l : List Ac) (st : SV × WV) : doV l st = l.foldl (fun st a => stepV st a) st := rfl
def stepA (st : SV × WV) (a : AV) : SV × WV := if a.1 = true then (setV (fun _ => true) st.2 st.1 st.2.length, []) else (st.1, st.2 ++ [(a.2.1, a.2.2)])
theorem stepV_A (st : SV × WV) (a : Ac) : stepV st a = stepA st a.abs := rfl
theorem doV_A (l : List Ac) (st : SV × WV) : doV l st = (l.map Ac.abs).foldl stepA st := by
  rw [doV_abs, List.foldl_map]
  rfl
end Go.Proofs.Ythjpjhcbefhpbaa
