/- The texts Row, RowArg, Opens, Dat, Dev1 in one file. -/
import Derived.Test.YtfongpdeflfioaaGreatS1
import Derived.ProofKit
import Derived.OpenShut
import Derived.JoinedCond
import Derived.SizedLaws
import Derived.Deep.Slices
import Derived.Deep.Fields
import Derived.ChangeSame
import Derived.Lib.SmallJoins
import Derived.Deep.CondSized
import Derived.SliceStrings
import Derived.IntWalk
import Derived.Deep.DeepCutAuto
import Derived.Test.YtfongpdeflfioaaGreatS2
/- From a walk ('it returns true, and what was there stays') to a law's row, whatever the law. -/
namespace Go.Proofs.YtfongpdeflfioaaGreat
open Go.RowKit Go.ChangeShapes Go.WideShapes Go.Deep Go.Joins
section
variable {H : Type} {enc : TypeId × Value → H} {P : Program}
theorem trodAll_stays (hl : laidOutB P = true) {W W' : World} (hb : Ext W W') {sp : Nat → Bool} : ∀ (ts : List TypeId) (vs : List Value) (ds : List (DataW H)) (ps : List MemPlace),
    (∀ t ∈ ts, P.readableRec t = true ∧ t < P.types.size) → DataW.TrodAll enc P W 0 (fun _ => true) true ts vs ds ps → (∀ x ∈ ps, x.block < W.heap.size) → (∀ x ∈ ps, sp x.block = true) →
    DataW.TrodAll enc P W' 0 sp true ts vs ds ps
  | [], [], [], _, _, h, _, _ => h
  | t :: ts, v :: vs, d :: ds, _, hts, h, hlt, hsp => by
    obtain ⟨p, q, h1, h2, rfl⟩ := h
    have ht := hts t (by simp)
    refine ⟨p, q, WideElems.Trod_stays hl ht.1 ht.2 h1 (fun x hx => Below.same hb (hlt x (by simp [hx]))) (fun x hx => hsp x (by simp [hx])),
      trodAll_stays hl hb ts vs ds q (fun t' h' => hts t' (by simp [h'])) h2 (fun x hx => hlt x (by simp [hx])) (fun x hx => hsp x (by simp [hx])), rfl⟩
  | [], [], _ :: _, _, _, h, _, _ => h.elim
  | [], _ :: _, _, _, _, h, _, _ => h.elim
  | _ :: _, [], _, _, _, h, _, _ => h.elim
  | _ :: _, _ :: _, [], _, _, h, _, _ => h.elim
theorem law_post {f : Func} {s : ChangeSpec} {W W' : World} {args : Array Value} {ds gs : List (DataW H)} {before : List MemPlace} {tb : TypeId} (hv : s.vars = [])
    (hW : DataW.Whole enc P f.params.toList s.vars false W args.toList ds gs before) (hl : laidOutB P = true) (hts : f.params.toList.all (fun t => P.readableRec t && decide (t < P.types.size)) = true)
    (hr : (s.fn H (ds ++ gs)).results = [.lit (.bool true)]) (ha : (s.fn H (ds ++ gs)).args = ds) (hvs : (s.fn H (ds ++ gs)).vars = []) (ht : f.resultTypes = #[tb]) (hu : P.underlying tb = some .bool) (hb : Ext W W') :
    s.post enc P f false true false false W args (.bool true) W' := by
  have hlt : ∀ p ∈ before, p.block < W.heap.size := fun p hp => hW.lt p hp
  obtain ⟨p, q, hA, hV, rfl, hz, hn⟩ := id hW
  rw [hv] at hV
  obtain ⟨_, rfl⟩ := trodVars_none hV
  simp only [List.append_nil] at hlt
  have hts' : ∀ t ∈ f.params.toList, P.readableRec t = true ∧ t < P.types.size := fun t h => by
    have := List.all_eq_true.1 hts t h
    simpa using this
  refine ⟨ds, gs, p ++ [], [], p, [], hW, ?_, ?_, ?_, ?_, fun h => by cases h⟩
  · rw [hr, ht]
    exact trodAll_mk1 (shut_bool hu true)
  · rw [ha]
    exact trodAll_stays hl hb _ _ _ _ hts' hA hlt (fun x hx => by simpa using hlt x hx)
  · rw [hvs, hv]
    rfl
  · exact World.keptBut_mono (fun x hx => ⟨by simpa using hx, Or.inr (Or.inl hx)⟩) (Below.frame hb (· ∈ p))
end
section
variable {H : Type} {enc : TypeId × Value → H} {P : Program} {w : World} {base : Nat} {spare : Nat → Bool} {held : Bool}
theorem open_slice_fields {t e : TypeId} {fs : Array Field} {fuel : Nat} {cs : List Value} {x : DataW H × List MemPlace} (ht : P.underlying t = some (.slice e)) (he : P.underlying e = some (.struct fs))
    (hone : oneCellFields P fs = true) (hC : P.cellsOf e = fs.size) (h : DataW.trod enc P w base spare held fuel t cs = some x) :
    (cs = [.slice none 0 0] ∧ x = (.nil, [])) ∨
    ∃ (a : Addr) (len cap m : Nat) (D : Nat → DataW H) (Pl : Nat → List MemPlace), cs = [.slice (some a) len cap] ∧ base ≤ a.block ∧ len ≤ cap ∧ cap ≤ maxLen ∧ m = (if spare a.block then cap else len) ∧
      x = (.slice ((List.range len).map D) ((List.range (m - len)).map fun j => D (len + j)), MemPlace.row a (m * fs.size) ++ (List.range m).flatMap Pl) ∧
      ∀ i, i < m → ∃ (ys : List (DataW H × List MemPlace)) (n : Nat), D i = .agg (ys.map (·.1)) ∧ Pl i = ys.flatMap (·.2) ∧ ys.length = fs.size ∧
        ∀ (j : Nat) (f : Field), fs[j]? = some f → ∃ (v : Value) (y : DataW H × List MemPlace), w.cell? (a.add (i * fs.size + j)) = some v ∧ ys[j]? = some y ∧ DataW.trod enc P w base spare held n f.type [v] = some y := by
  rcases open_slice ht h with h0 | ⟨a, len, cap, m, n, D, Pl, hcs, hb, hl, hm, hmm, hx, hi⟩
  · exact .inl h0
  · refine .inr ⟨a, len, cap, m, D, Pl, hcs, hb, hl, hm, hmm, by rw [hC] at hx; exact hx, fun i him => ?_⟩
    obtain ⟨cs', hc, ht'⟩ := hi i him
    rw [hC] at hc
    obtain ⟨ys, n', hn', hy, hlen, hyl, hf⟩ := DataW.trod_struct he ht'
    obtain ⟨_, hcl, hat⟩ := World.cells?_some hc
    simp only [Prod.mk.injEq] at hy
    refine ⟨ys, n', hy.1, hy.2, hyl, fun j f hj => ?_⟩
    obtain ⟨ho, hk⟩ := hone_of hone j f hj
    have hjl : j < fs.size := (Array.getElem?_eq_some_iff.1 hj).1
    have hcell := hat j hjl
    have hv : cs'[j]? = some (cs'[j]'(by omega)) := List.getElem?_eq_getElem (by omega)
    have h1 := hf j f hj
    rw [ho, hk] at h1
    have hone' : (cs'.drop j).take 1 = [cs'[j]'(by omega)] := by
      rw [List.drop_eq_getElem_cons (by omega)]
      rfl
    rw [hone'] at h1
    have hys : ys[j]? = some (ys[j]'(by omega)) := List.getElem?_eq_getElem (by omega)
    refine ⟨_, _, ?_, hys, h1.trans hys⟩
    rw [← Go.Deep.add_add, hcell, hv]
theorem addr_plain {w : World} {a : Addr} {n : Nat} {v : Value} (h : w.cell? (a.add n) = some v) (h0 : ∃ u, w.cell? a = some u) : a = ⟨a.block, a.off, none⟩ := by
  obtain ⟨u, hu⟩ := h0
  obtain ⟨b, o, s⟩ := a
  unfold World.cell? at hu
  cases s with
  | none => rfl
  | some s =>
    simp at hu
    split at hu <;> simp at hu
theorem block_lt_of_cell {w : World} {a : Addr} {v : Value} (h : w.cell? a = some v) : a.block < w.heap.size := World.block_lt_of_cell? w a h
end
theorem wf_i64_bd {n : Int} (h : (Lit.int .i64 n).wf = true) : -9223372036854775808 ≤ n ∧ n ≤ 9223372036854775807 := by
  have h1 : IntKind.i64.min = -9223372036854775808 := rfl
  have h2 : IntKind.i64.max = 9223372036854775807 := rfl
  simp only [Lit.wf, Bool.and_eq_true, decide_eq_true_eq] at h
  omega
theorem length_le_reach {n b r : Nat} (h : n * b ≤ r) (hb : 1 ≤ b) : n ≤ r := Nat.le_trans (Nat.le_mul_of_pos_right n hb) h
end Go.Proofs.YtfongpdeflfioaaGreat
/- Arguments that come in: a list of texts, octets: as lists. -/
namespace Go.Proofs.YtfongpdeflfioaaGreat
open Go.RowKit Go.ChangeShapes Go.WideShapes Go.Deep Go.Joins
section
variable {H : Type} {enc : TypeId × Value → H} {P : Program} {w : World} {spare : Nat → Bool} {held : Bool}
theorem plain_of_cells {w : World} {a : Addr} {cs : List Value} (h : ∀ i u, cs[i]? = some u → w.cell? (a.add i) = some u) : Rd w 0 w.heap.size (some a) cs := fun hn => by
  have hl : 0 < cs.length := by
    rcases Nat.eq_zero_or_pos cs.length with h0 | h0
    · exact absurd (List.eq_nil_of_length_eq_zero h0) hn
    · exact h0
  have h0 := h 0 _ (List.getElem?_eq_getElem hl)
  have h0' : w.cell? a = some (cs[0]'hl) := by simpa [Addr.add] using h0
  have ha := addr_plain h0 ⟨_, h0'⟩
  refine ⟨a.block, a.off, by rw [← ha], Nat.zero_le _, block_lt_of_cell h0', fun j u hj => ?_⟩
  have := h j u hj
  rw [ha, add_lit] at this
  exact this
theorem open_texts {r : Reach} {b0 : Nat} {t e : TypeId} (ht : P.underlying t = some (.slice e)) (he : P.underlying e = some .string) (hc : P.cellsOf e = 1) {v : Value} {d : DataW H} {p : List MemPlace} (hv : Value.okWide P w r b0 t v) (h : DataW.Trod enc P w 0 spare held t v d p) :
    ∃ (A : Option Addr) (n c : Nat) (l : List ByteArray), v = .slice A n c ∧ n = l.length ∧ n ≤ c ∧ c ≤ maxLen ∧ Rd w 0 w.heap.size A (l.map Value.string) ∧ (∀ s ∈ l, s.size ≤ maxLen) ∧
      ((n = 0 ∧ l = []) ∨ ∃ elems sp, d = .slice elems sp ∧ n ≤ elems.length + sp.length ∧ ∀ s ∈ l, DataW.lit (.string s.data.toList) ∈ elems) := by
  obtain ⟨A, n, c, rfl⟩ := okWide_slice ht hv
  obtain ⟨fuel, hf⟩ := h
  rcases open_strings ht he hc (by simpa [Value.cells] using hf) with ⟨hcs, _⟩ | ⟨a, len, cap, ss, hcs, _, hl, hm, hz, hx, hcell, hws⟩
  · simp only [List.cons.injEq, Value.slice.injEq, and_true] at hcs
    obtain ⟨rfl, rfl, rfl⟩ := hcs
    exact ⟨none, 0, 0, [], rfl, rfl, Nat.le_refl _, Nat.zero_le _, Rd.nil, fun _ h => by simp at h, .inl ⟨rfl, rfl⟩⟩
  · simp only [List.cons.injEq, Value.slice.injEq, and_true] at hcs
    obtain ⟨rfl, rfl, rfl⟩ := hcs
    have hle : n ≤ ss.length := by rw [hz]; split <;> omega
    refine ⟨some a, n, c, ss.take n, rfl, by rw [List.length_take]; omega, hl, hm, plain_of_cells fun i u hi => ?_, fun s hs => hws s (List.mem_of_mem_take hs), .inr ⟨_, _, (Prod.mk.inj hx).1, by simp [strs]; omega, fun s hs => ?_⟩⟩
    · rw [List.getElem?_map] at hi
      have hin : i < n := by
        rcases Nat.lt_or_ge i n with h' | h'
        · exact h'
        · rw [List.getElem?_eq_none (by rw [List.length_take]; omega)] at hi; cases hi
      rw [List.getElem?_take_of_lt hin, List.getElem?_eq_getElem (by omega)] at hi
      rw [hcell i (by omega)]
      simp only [Option.map_some] at hi
      rw [← hi]
      simp [List.getD, List.getElem?_eq_getElem (show i < ss.length by omega)]
    · simp only [strs, List.mem_map]
      exact ⟨s, hs, rfl⟩
theorem open_octets {r : Reach} {b0 : Nat} {t e : TypeId} (ht : P.underlying t = some (.slice e)) (he : P.underlying e = some (.int .u8)) (hc : P.cellsOf e = 1) {v : Value} {d : DataW H} {p : List MemPlace} (hv : Value.okWide P w r b0 t v) (h : DataW.Trod enc P w 0 spare held t v d p) :
    ∃ (A : Option Addr) (n c : Nat) (l : List UInt8), v = .slice A n c ∧ n = l.length ∧ n ≤ c ∧ c ≤ maxLen ∧ Rd w 0 w.heap.size A (bytes l) ∧
      (n = 0 ∨ ∃ elems sp, d = .slice elems sp ∧ n ≤ elems.length + sp.length) := by
  obtain ⟨A, n, c, rfl⟩ := okWide_slice ht hv
  obtain ⟨fuel, hf⟩ := h
  rcases open_ints ht he hc (by simpa [Value.cells] using hf) with ⟨hcs, _⟩ | ⟨a, len, cap, zs, hcs, _, hl, hm, hz, hx, hcell, hws⟩
  · simp only [List.cons.injEq, Value.slice.injEq, and_true] at hcs
    obtain ⟨rfl, rfl, rfl⟩ := hcs
    exact ⟨none, 0, 0, [], rfl, rfl, Nat.le_refl _, Nat.zero_le _, Rd.nil, .inl rfl⟩
  · simp only [List.cons.injEq, Value.slice.injEq, and_true] at hcs
    obtain ⟨rfl, rfl, rfl⟩ := hcs
    have hle : n ≤ zs.length := by rw [hz]; split <;> omega
    refine ⟨some a, n, c, (zs.take n).map (fun z => UInt8.ofNat z.toNat), rfl, by simp; omega, hl, hm, plain_of_cells fun i u hi => ?_, .inr ⟨_, _, (Prod.mk.inj hx).1, by simp [lits]; omega⟩⟩
    rw [bytes, List.map_map, List.getElem?_map] at hi
    have hin : i < n := by
      rcases Nat.lt_or_ge i n with h' | h'
      · exact h'
      · rw [List.getElem?_eq_none (by rw [List.length_take]; omega)] at hi; cases hi
    rw [List.getElem?_take_of_lt hin, List.getElem?_eq_getElem (by omega)] at hi
    simp only [Option.map_some, Function.comp] at hi
    rw [hcell i (by omega), ← hi]
    have hwf := hws (zs[i]'(by omega)) (List.getElem_mem _)
    have hb : 0 ≤ zs[i]'(by omega) ∧ zs[i]'(by omega) ≤ 255 := by simpa [Lit.wf, IntKind.min, IntKind.max, IntKind.signed, IntKind.bits] using hwf
    rw [List.getD, List.getElem?_eq_getElem (show i < zs.length by omega), Option.getD_some, UInt8.toNat_ofNat', Nat.mod_eq_of_lt (by omega)]
    congr 2
    omega
end
end Go.Proofs.YtfongpdeflfioaaGreat
/- Arguments that come in, of whatever nested type, as Lean's own data: openers that are put together. -/
namespace Go.Proofs.YtfongpdeflfioaaGreat
open Go.RowKit Go.ChangeShapes Go.WideShapes Go.Deep Go.Joins
structure Sl (α : Type) where
  A : Option Addr
  n : Nat
  c : Nat
  xs : List α
def Sl.val {α : Type} (s : Sl α) : Value := .slice s.A s.n s.c
structure Sl.In {α : Type} (P : Program) (w : World) (e : TypeId) (cells : α → List Value) (I : α → Prop) (s : Sl α) : Prop where
  len : s.n = s.xs.length
  le : s.n ≤ s.c
  cap : s.c ≤ maxLen
  bytes : s.n * P.bytesOf e ≤ reachBytes
  rd : Rd w 0 w.heap.size s.A (s.xs.flatMap cells)
  all : ∀ x ∈ s.xs, I x
section
variable {H : Type} {enc : TypeId × Value → H} {P : Program} {w : World} {t e : TypeId} {α β : Type}
def Opens (enc : TypeId × Value → H) (P : Program) (w : World) (t : TypeId) (cells : α → List Value) (I : α → Prop) : Prop :=
  ∀ (spare : Nat → Bool) (held : Bool) (fuel : Nat) (cs : List Value) (x : DataW H × List MemPlace), DataW.trod enc P w 0 spare held fuel t cs = some x → (∀ n ∈ x.1.weights P t, n ≤ reachBytes) → ∃ a, cs = cells a ∧ I a
theorem opens_int {k : IntKind} (ht : P.underlying t = some (.int k)) : Opens enc P w t (fun z : Int => [.int k z]) (fun z => k.min ≤ z ∧ z ≤ k.max) := fun _ _ _ _ _ h _ => by
  obtain ⟨n, rfl, _, hw⟩ := DataW.trod_int ht h
  simp only [Lit.wf, Bool.and_eq_true, decide_eq_true_eq] at hw
  exact ⟨n, rfl, hw⟩
theorem opens_bool (ht : P.underlying t = some .bool) : Opens enc P w t (fun z : Bool => [.bool z]) (fun _ => True) := fun _ _ _ _ _ h _ => by
  obtain ⟨n, rfl, _⟩ := DataW.trod_bool ht h
  exact ⟨n, rfl, trivial⟩
theorem opens_str (ht : P.underlying t = some .string) : Opens enc P w t (fun s : ByteArray => [.string s]) (fun s => s.size ≤ reachBytes) := fun _ _ _ _ _ h hw => by
  obtain ⟨s, rfl, rfl, _⟩ := DataW.trod_string ht h
  refine ⟨s, rfl, ?_⟩
  have := hw s.data.toList.length (by simp [DataW.weights])
  rw [Array.length_toList] at this
  exact this
theorem Opens.map {cells : α → List Value} {I : α → Prop} {cells' : β → List Value} {I' : β → Prop} (h : Opens enc P w t cells I) (f : α → β) (hc : ∀ a, I a → cells a = cells' (f a)) (hi : ∀ a, I a → I' (f a)) : Opens enc P w t cells' I' := fun _ _ _ _ _ h1 h2 => by
  obtain ⟨a, rfl, ha⟩ := h _ _ _ _ _ h1 h2
  exact ⟨f a, hc a ha, hi a ha⟩
theorem flat_get {cells : α → List Value} {size : Nat} (hs : ∀ a, (cells a).length = size) (xs : List α) (k j : Nat) (hj : j < size) (hk : k < xs.length) : (xs.flatMap cells)[k * size + j]? = (cells xs[k])[j]? := by
  induction xs generalizing k with
  | nil => simp at hk
  | cons x xs ih =>
    rw [List.flatMap_cons]
    cases k with
    | zero => rw [List.getElem?_append_left (by rw [hs]; omega)]; simp
    | succ k =>
      rw [List.getElem?_append_right (by rw [hs, Nat.succ_mul]; omega), hs, show (k + 1) * size + j - size = k * size + j by rw [Nat.succ_mul]; omega, ih k (by simpa using hk)]
      simp
theorem flat_length {cells : α → List Value} {size : Nat} (hs : ∀ a, (cells a).length = size) (xs : List α) : (xs.flatMap cells).length = xs.length * size := by
  induction xs with
  | nil => simp
  | cons x xs ih => rw [List.flatMap_cons, List.length_append, ih, hs, List.length_cons, Nat.succ_mul]; omega
theorem weights_all {l : List (DataW H)} {d : DataW H} (h : d ∈ l) : ∀ n ∈ d.weights P e, n ∈ DataW.weightsAll P e l := by
  induction l with
  | nil => cases h
  | cons x l ih =>
    intro n hn
    simp only [DataW.weightsAll, List.mem_append]
    rcases List.mem_cons.1 h with rfl | h
    · exact .inl hn
    · exact .inr (ih h n hn)
theorem opens_slice (size : Nat) {cells : α → List Value} {I : α → Prop} (ht : P.underlying t = some (.slice e)) (hC : P.cellsOf e = size) (h0 : 0 < size) (hs : ∀ a, (cells a).length = size) (el : Opens enc P w e cells I) :
    Opens enc P w t (fun s : Sl α => [s.val]) (Sl.In P w e cells I) := fun spare held fuel cs x h hw => by
  subst hC
  rcases open_slice ht h with ⟨rfl, rfl⟩ | ⟨a, len, cap, m, n, D, Pl, rfl, _, hl, hm, hmm, rfl, hi⟩
  · exact ⟨⟨none, 0, 0, []⟩, rfl, ⟨rfl, Nat.le_refl _, Nat.zero_le _, by simp, Rd.nil, fun _ h => by simp at h⟩⟩
  · have hnm : len ≤ m := by rw [hmm]; split <;> omega
    have hb : len * P.bytesOf e ≤ reachBytes := by
      have := hw _ (by simp only [DataW.weights, ht]; exact List.mem_cons_self)
      simp only [List.length_map, List.length_range] at this
      exact Nat.le_trans (Nat.mul_le_mul_right _ (by omega)) this
    rcases Nat.eq_zero_or_pos len with hlen | hlen
    · subst hlen
      exact ⟨⟨some a, 0, cap, []⟩, rfl, ⟨rfl, hl, hm, hb, Rd.nil, fun _ h => by simp at h⟩⟩
    · have one : ∀ i, i < len → ∃ y : α, I y ∧ ∀ j u, (cells y)[j]? = some u → w.cell? (a.add (i * P.cellsOf e + j)) = some u := by
        intro i hil
        obtain ⟨cs', hc, ht'⟩ := hi i (by omega)
        obtain ⟨y, rfl, hy⟩ := el _ _ _ _ _ ht' (fun n hn => hw n (by
          simp only [DataW.weights, ht, List.mem_cons, List.mem_append]
          exact .inr (.inl (weights_all (List.mem_map_of_mem (List.mem_range.2 hil)) n hn))))
        obtain ⟨_, _, hat⟩ := World.cells?_some hc
        refine ⟨y, hy, fun j u hu => ?_⟩
        have hj : j < P.cellsOf e := by
          have := (List.getElem?_eq_some_iff.1 hu).1
          rwa [hs] at this
        rw [← Go.Deep.add_add, hat j hj, hu]
      have key : ∀ i, ∃ y : α, i < len → I y ∧ ∀ j u, (cells y)[j]? = some u → w.cell? (a.add (i * P.cellsOf e + j)) = some u := by
        intro i
        by_cases hil : i < len
        · obtain ⟨y, h1, h2⟩ := one i hil
          exact ⟨y, fun _ => ⟨h1, h2⟩⟩
        · obtain ⟨y, _⟩ := one 0 hlen
          exact ⟨y, fun h => absurd h hil⟩
      obtain ⟨g, hg⟩ := Classical.axiomOfChoice key
      refine ⟨⟨some a, len, cap, (List.range len).map g⟩, rfl, ⟨by simp, hl, hm, hb, plain_of_cells fun i u hu => ?_, fun x hx => ?_⟩⟩
      · have hil : i < len * P.cellsOf e := by
          have := (List.getElem?_eq_some_iff.1 hu).1
          rw [flat_length hs] at this
          simpa using this
        have hk : i / P.cellsOf e < len := Nat.div_lt_of_lt_mul (by rw [Nat.mul_comm]; exact hil)
        have hij : i / P.cellsOf e * P.cellsOf e + i % P.cellsOf e = i := Nat.div_add_mod' i (P.cellsOf e)
        rw [← hij, flat_get hs _ _ _ (Nat.mod_lt _ h0) (by simpa using hk)] at hu
        simp only [List.getElem_map, List.getElem_range] at hu
        rw [← hij]
        exact (hg _ hk).2 _ u hu
      · simp only [List.mem_map, List.mem_range] at hx
        obtain ⟨i, hil, rfl⟩ := hx
        exact (hg i hil).1
def OpensF (enc : TypeId × Value → H) (P : Program) (w : World) (L : Nat) (fs : List Field) (off : Nat) (cells : α → List Value) (I : α → Prop) : Prop :=
  ∀ (spare : Nat → Bool) (held : Bool) (fuel : Nat) (cs : List Value) (ys : List (DataW H × List MemPlace)), cs.length = L → ys.length = fs.length →
    (∀ (i : Nat) (f : Field), fs[i]? = some f → DataW.trod enc P w 0 spare held fuel f.type ((cs.drop f.offset).take (P.cellsOf f.type)) = ys[i]?) →
    (∀ n ∈ DataW.weightsEach P (fs.map (·.type)) (ys.map (·.1)), n ≤ reachBytes) → ∃ a, cs.drop off = cells a ∧ I a
theorem OpensF.nil {L : Nat} : OpensF enc P w L [] L (fun _ : Unit => []) (fun _ => True) := fun _ _ _ cs _ hl _ _ _ => ⟨(), List.drop_eq_nil_of_le (by omega), trivial⟩
theorem OpensF.cons (size : Nat) {L off : Nat} {f : Field} {fs : List Field} {cells : α → List Value} {I : α → Prop} {cells' : β → List Value} {I' : β → Prop} (h : Opens enc P w f.type cells I) (ho : f.offset = off) (hc : P.cellsOf f.type = size)
    (r : OpensF enc P w L fs (off + size) cells' I') : OpensF enc P w L (f :: fs) off (fun x : α × β => cells x.1 ++ cells' x.2) (fun x => I x.1 ∧ I' x.2) := fun spare held fuel cs ys hl hy hf hw => by
  subst ho hc
  cases ys with
  | nil => simp at hy
  | cons y ys =>
    obtain ⟨a, ha, hi⟩ := h _ _ _ _ y (hf 0 f rfl) (fun n hn => hw n (by simp only [List.map_cons, DataW.weightsEach, List.mem_append]; exact .inl hn))
    obtain ⟨b, hb, hj⟩ := r spare held fuel cs ys hl (by simpa using hy) (fun i g hg => hf (i + 1) g hg) (fun n hn => hw n (by simp only [List.map_cons, DataW.weightsEach, List.mem_append]; exact .inr hn))
    refine ⟨(a, b), ?_, hi, hj⟩
    show _ = cells a ++ cells' b
    rw [← ha, ← hb, ← List.drop_drop, List.take_append_drop]
theorem opens_struct {L : Nat} {fs : Array Field} {cells : α → List Value} {I : α → Prop} (hu : P.underlying t = some (.struct fs)) (hL : P.cellsOf t = L) (hF : OpensF enc P w L fs.toList 0 cells I) : Opens enc P w t cells I := fun spare held fuel cs x h hw => by
  obtain ⟨ys, n, _, rfl, hlen, hyl, hf⟩ := DataW.trod_struct hu h
  obtain ⟨a, ha, hi⟩ := hF spare held n cs ys (hlen.trans hL) (by simpa using hyl) (fun i f hif => hf i f (by simpa using hif)) (fun n hn => hw n (by simp only [DataW.weights, hu]; exact hn))
  exact ⟨a, by simpa using ha, hi⟩
theorem Opens.param_struct {fs : Array Field} {cells : α → List Value} {I : α → Prop} (h : Opens enc P w t cells I) (hu : P.underlying t = some (.struct fs)) {r : Reach} {b0 : Nat} {spare : Nat → Bool} {held : Bool} {v : Value} {d : DataW H} {p : List MemPlace}
    (hv : Value.okWide P w r b0 t v) (ht : DataW.Trod enc P w 0 spare held t v d p) (hw : ∀ n ∈ d.weights P t, n ≤ reachBytes) : ∃ a, v = .agg (cells a).toArray ∧ I a := by
  obtain ⟨cs, rfl, _⟩ := okWide_struct hu hv
  obtain ⟨fuel, hf⟩ := ht
  obtain ⟨a, ha, hi⟩ := h _ _ _ _ _ hf hw
  exact ⟨a, by rw [← ha]; rfl, hi⟩
theorem Opens.param_slice {I : Sl α → Prop} (h : Opens enc P w t (fun s : Sl α => [s.val]) I) (ht : P.underlying t = some (.slice e)) {r : Reach} {b0 : Nat} {spare : Nat → Bool} {held : Bool} {v : Value} {d : DataW H} {p : List MemPlace}
    (hv : Value.okWide P w r b0 t v) (htr : DataW.Trod enc P w 0 spare held t v d p) (hw : ∀ n ∈ d.weights P t, n ≤ reachBytes) : ∃ s : Sl α, v = s.val ∧ I s := by
  obtain ⟨A, n, c, rfl⟩ := okWide_slice ht hv
  obtain ⟨fuel, hf⟩ := htr
  obtain ⟨a, ha, hi⟩ := h _ _ _ _ _ hf hw
  exact ⟨a, by simpa [Value.cells] using ha, hi⟩
theorem weights_arg {ts : List TypeId} {ds : List (DataW H)} (h : (DataW.weightsEach P ts ds).all (· ≤ reachBytes) = true) {j : Nat} {d : DataW H} (ht : ts[j]? = some t) (hd : ds[j]? = some d) : ∀ n ∈ d.weights P t, n ≤ reachBytes := fun n hn => by
  have := List.all_eq_true.1 h _ (DataW.weights_mem_each ht hd n hn)
  simpa using this
end
end Go.Proofs.YtfongpdeflfioaaGreat
/- Slices whose elements are read as Lean's own data; octets; a device. -/
namespace Go.Proofs.YtfongpdeflfioaaGreat
open Go.RowKit
theorem retB {a b : Bool} (h : a = b) : Ending.returned (.bool a) = Ending.returned (.bool b) := by rw [h]
theorem retI {k : IntKind} {a b : Int} (h : a = b) : Ending.returned (.int k a) = Ending.returned (.int k b) := by rw [h]
theorem bcell {W w1 : World} (hb : Ext W w1) : (∀ b o, b < W.heap.size → w1.cell? ⟨b, o, none⟩ = W.cell? ⟨b, o, none⟩) ∧ (∀ b o, b < W.heap.size → w1.frozen? ⟨b, o, none⟩ = W.frozen? ⟨b, o, none⟩) :=
  ⟨fun b o h => Below.cell (p := ⟨b, o, none⟩) hb h, fun b o h => Below.frozen (p := ⟨b, o, none⟩) hb h⟩
theorem callF {P : Program} {f : FuncId} {fn : Func} {c : Code} (hf : P.funcs[f]? = some fn) (hname : (fn.name == "runtime.NumGoroutine") = false) (hb : fn.body = some c) : ∀ args w, (callFunc f args).run P w = .ok (.enter f args) w := fun args w => by
  have h1 : fn.name ≠ "runtime.NumGoroutine" := by simpa using hname
  simp [callFunc, hf, h1, hb]
theorem rd_flat {α : Type} {cells : α → List Value} {size : Nat} (hs : ∀ a, (cells a).length = size) (h0 : 0 < size) {w : World} {lo hi : Nat} {A : Option Addr} {xs : List α} (h : Rd w lo hi A (xs.flatMap cells)) {k : Nat} (hk : k < xs.length) :
    ∃ b o, A = some ⟨b, o, none⟩ ∧ lo ≤ b ∧ b < hi ∧ ∀ j u, (cells xs[k])[j]? = some u → w.cell? ⟨b, o + k * size + j, none⟩ = some u := by
  obtain ⟨b, o, h1, h2, h3, h4⟩ := h (fun e => by
    have := flat_length hs xs
    rw [e] at this
    have := Nat.mul_pos (show 0 < xs.length by omega) h0
    simp at *
    omega)
  refine ⟨b, o, h1, h2, h3, fun j u hu => ?_⟩
  have hj : j < size := by
    have := (List.getElem?_eq_some_iff.1 hu).1
    rwa [hs] at this
  rw [Nat.add_assoc]
  exact h4 _ u (by rw [flat_get hs xs k j hj hk]; exact hu)
structure Sl.At {α : Type} (w : World) (lo hi : Nat) (cells : α → List Value) (I : α → Prop) (s : Sl α) : Prop where
  len : s.n = s.xs.length
  le : s.n ≤ s.c
  cap : s.c ≤ maxLen
  rd : Rd w lo hi s.A (s.xs.flatMap cells)
  all : ∀ x ∈ s.xs, I x
theorem Sl.At.imp {α : Type} {w w' : World} {lo hi lo' hi' : Nat} {cells : α → List Value} {I I' : α → Prop} {s : Sl α} (h : Sl.At w lo hi cells I s) (hr : Rd w lo hi s.A (s.xs.flatMap cells) → Rd w' lo' hi' s.A (s.xs.flatMap cells)) (hi : ∀ x, I x → I' x) : Sl.At w' lo' hi' cells I' s :=
  ⟨h.len, h.le, h.cap, hr h.rd, fun x hx => hi x (h.all x hx)⟩
def octc (b : UInt8) : List Value := [.int .u8 (b.toNat : Int)]
theorem octs_flat (l : List UInt8) : l.flatMap octc = bytes l := by
  induction l with
  | nil => rfl
  | cons b l ih => rw [List.flatMap_cons, ih]; rfl
abbrev Oct := Sl UInt8
abbrev Oct.At (w : World) (lo hi : Nat) (s : Oct) : Prop := Sl.At w lo hi octc (fun _ => True) s
theorem Oct.At.rdb {w : World} {lo hi : Nat} {s : Oct} (h : Oct.At w lo hi s) : Rd w lo hi s.A (bytes s.xs) := by rw [← octs_flat]; exact h.rd
def octv (s : Oct) : List Value := [s.val]
structure Wrt where
  pos : Int
  data : Oct
def Wrt.cells (x : Wrt) : List Value := [.int .i64 x.pos, x.data.val]
structure Wrt.At (w : World) (lo hi : Nat) (x : Wrt) : Prop where
  p0 : -9223372036854775808 ≤ x.pos
  p1 : x.pos ≤ 9223372036854775807
  data : Oct.At w lo hi x.data
structure Dev where
  secs : Sl Oct
  waits : Sl Wrt
def Dev.cells (d : Dev) : List Value := [d.secs.val, d.waits.val]
structure Dev.At (w : World) (lo hi : Nat) (d : Dev) : Prop where
  secs : Sl.At w lo hi octv (Oct.At w lo hi) d.secs
  waits : Sl.At w lo hi Wrt.cells (Wrt.At w lo hi) d.waits
section
variable {w w' : World} {lo hi lo' hi' : Nat}
theorem Oct.At.imp {s : Oct} (h : Oct.At w lo hi s) (hr : ∀ A cs, Rd w lo hi A cs → Rd w' lo' hi' A cs) : Oct.At w' lo' hi' s := Sl.At.imp h (hr _ _) (fun _ h => h)
theorem Wrt.At.imp {x : Wrt} (h : Wrt.At w lo hi x) (hr : ∀ A cs, Rd w lo hi A cs → Rd w' lo' hi' A cs) : Wrt.At w' lo' hi' x := ⟨h.p0, h.p1, Oct.At.imp h.data hr⟩
theorem Dev.At.imp {d : Dev} (h : Dev.At w lo hi d) (hr : ∀ A cs, Rd w lo hi A cs → Rd w' lo' hi' A cs) : Dev.At w' lo' hi' d :=
  ⟨Sl.At.imp h.secs (hr _ _) (fun _ hx => Oct.At.imp hx hr), Sl.At.imp h.waits (hr _ _) (fun _ hx => Wrt.At.imp hx hr)⟩
theorem rd_on (e : Ext w w') (hh : hi ≤ w.heap.size) : ∀ A cs, Rd w lo hi A cs → Rd w' lo w'.heap.size A cs := fun _ _ h => Rd.at h (Below.mono e hh) hh
theorem Dev.At.on {d : Dev} (h : Dev.At w lo hi d) (e : Ext w w') (hh : hi ≤ w.heap.size) : Dev.At w' lo w'.heap.size d := h.imp (rd_on e hh)
theorem Oct.At.on {d : Oct} (h : Oct.At w lo hi d) (e : Ext w w') (hh : hi ≤ w.heap.size) : Oct.At w' lo w'.heap.size d := Oct.At.imp h (rd_on e hh)
theorem Dev.At.low {d : Dev} (h : Dev.At w lo hi d) (hl : lo' ≤ lo) : Dev.At w lo' hi d := h.imp fun _ _ h => h.more hl (Nat.le_refl _)
theorem Oct.At.low {d : Oct} (h : Oct.At w lo hi d) (hl : lo' ≤ lo) : Oct.At w lo' hi d := Oct.At.imp h fun _ _ h => h.more hl (Nat.le_refl _)
end
end Go.Proofs.YtfongpdeflfioaaGreat
/- slices.IndexFunc, ContainsFunc over octets and writes; device.Check. -/
namespace Go.Proofs.YtfongpdeflfioaaGreat
open Go.RowKit
set_option linter.unusedSimpArgs false
set_option maxHeartbeats 400000 in
theorem idxo_any (w : World) (A : Option Addr) (n c : Nat) (xs : List Oct) (hn : n = xs.length) (hm : n ≤ 9223372036854775807) (hr : Rd w 0 w.heap.size A (xs.flatMap octv)) (p : Oct → Bool) (F : Value) (f : FuncId) (caps : Array Value) (hf : F = .func (.func f) #[] caps) (hcf : ∀ args w, (callFunc f args).run Tryz.prog w = .ok (.enter f args) w)
    (hF : ∀ x ∈ xs, ∀ w1, Ext w w1 → Calls Tryz.prog f (#[x.val] ++ caps) w1 fun e w' => e = .returned (.bool (p x)) ∧ Ext w1 w') :
    Calls Tryz.prog 124 #[.slice A n c, F] w fun e w' => ∃ r : Int, e = .returned (.int .i64 r) ∧ xs.any p = decide (0 ≤ r) ∧ -1 ≤ r ∧ Ext w w' := by
  subst hf
  have Hn := Lib.hid hn
  have HF := Lib.hid hF
  clear hn hF
  go_enter Tryz.func124, Tryz.ntmps124
  go_wp2_with fail
  go_loopw [8] (fun i wr => ∃ k : Nat, k ≤ n ∧ i = .int .i64 k ∧ Hid ((xs.take k).any p = false) ∧ Ext w wr) (fun i _ => n - (intOf i).toNat)
  case atStart => exact ⟨0, Nat.zero_le _, rfl, Lib.hid rfl, Ext.refl _⟩
  case round =>
    obtain ⟨k, hk, rfl, HK, e1⟩ := hrel
    by_cases hlt : k < n
    · have hl : k < xs.length := by rw [← Hn.out]; omega
      obtain ⟨b1, o1, rfl, _, hb1, G0⟩ := rd_flat (size := 1) (fun _ => rfl) (by omega) hr hl
      have HC := Lib.hid (HF.out xs[k] (List.getElem_mem _) wr e1)
      have hsnoc := Lib.hid (show (xs.take (k + 1)).any p = ((xs.take k).any p || p xs[k]) by rw [List.take_succ_eq_append_getElem hl, List.any_append]; simp)
      have hyes := Lib.hid (fun h : p xs[k] = true => List.any_eq_true.2 ⟨xs[k], List.getElem_mem _, h⟩)
      have G : ∀ j u, (octv xs[k])[j]? = some u → wr.cell? ⟨b1, o1 + k * 1 + j, none⟩ = some u := fun j u hu => by rw [Below.cell e1 hb1]; exact G0 j u hu
      generalize xs[k] = x at *
      have g0 := G 0 _ rfl
      simp only [Nat.add_zero, Nat.mul_one] at g0
      clear G G0
      go_wp2_with fail
      refine HC.out.mono ?_
      rintro e w2 ⟨rfl, e2⟩
      cases ho : p x
      · go_wp2_with fail
        go_roundw
        case rel =>
          exact ⟨k + 1, by omega, by go_num, Lib.hid (by rw [hsnoc.out, HK.out, ho]; rfl), by exact blo⟩
        case measure => simp [intOf]; omega
      · go_wp2_with fail
        go_ret
        refine ⟨k, rfl, ?_, by omega, by exact blo⟩
        rw [hyes.out ho]
        simp
    · go_wp2_with fail
      go_ret
      obtain rfl : k = n := by omega
      have h1 := HK.out
      rw [List.take_of_length_le (by rw [← Hn.out]; exact Nat.le_refl _)] at h1
      exact ⟨-1, rfl, by rw [h1]; rfl, by omega, e1⟩
theorem cono_any (w : World) (A : Option Addr) (n c : Nat) (xs : List Oct) (hn : n = xs.length) (hm : n ≤ 9223372036854775807) (hr : Rd w 0 w.heap.size A (xs.flatMap octv)) (p : Oct → Bool) (F : Value) (f : FuncId) (caps : Array Value) (hf : F = .func (.func f) #[] caps) (hcf : ∀ args w, (callFunc f args).run Tryz.prog w = .ok (.enter f args) w)
    (hF : ∀ x ∈ xs, ∀ w1, Ext w w1 → Calls Tryz.prog f (#[x.val] ++ caps) w1 fun e w' => e = .returned (.bool (p x)) ∧ Ext w1 w') :
    Calls Tryz.prog 83 #[.slice A n c, F] w fun e w' => e = .returned (.bool (xs.any p)) ∧ Ext w w' := by
  have H := Lib.hid (idxo_any w A n c xs hn hm hr p F f caps hf hcf hF)
  clear hn hF hr hm hf hcf
  go_enter Tryz.func83, Tryz.ntmps83
  go_wp2_with fail
  refine H.out.mono ?_
  rintro e w2 ⟨r, rfl, hany, hr1, e2⟩
  have HA := Lib.hid hany
  clear hany
  go_wp2_with fail
  go_ret
  exact ⟨by rw [HA.out]; rfl, e2⟩
set_option maxHeartbeats 400000 in
theorem idxw_any (w : World) (A : Option Addr) (n c : Nat) (xs : List Wrt) (hn : n = xs.length) (hm : n ≤ 9223372036854775807) (hr : Rd w 0 w.heap.size A (xs.flatMap Wrt.cells)) (p : Wrt → Bool) (F : Value) (f : FuncId) (caps : Array Value) (hf : F = .func (.func f) #[] caps) (hcf : ∀ args w, (callFunc f args).run Tryz.prog w = .ok (.enter f args) w)
    (hF : ∀ x ∈ xs, ∀ w1, Ext w w1 → Calls Tryz.prog f (#[.agg x.cells.toArray] ++ caps) w1 fun e w' => e = .returned (.bool (p x)) ∧ Ext w1 w') :
    Calls Tryz.prog 125 #[.slice A n c, F] w fun e w' => ∃ r : Int, e = .returned (.int .i64 r) ∧ xs.any p = decide (0 ≤ r) ∧ -1 ≤ r ∧ Ext w w' := by
  subst hf
  have Hn := Lib.hid hn
  have HF := Lib.hid hF
  clear hn hF
  go_enter Tryz.func125, Tryz.ntmps125
  go_wp2_with fail
  go_loopw [8] (fun i wr => ∃ k : Nat, k ≤ n ∧ i = .int .i64 k ∧ Hid ((xs.take k).any p = false) ∧ Ext w wr) (fun i _ => n - (intOf i).toNat)
  case atStart => exact ⟨0, Nat.zero_le _, rfl, Lib.hid rfl, Ext.refl _⟩
  case round =>
    obtain ⟨k, hk, rfl, HK, e1⟩ := hrel
    by_cases hlt : k < n
    · have hl : k < xs.length := by rw [← Hn.out]; omega
      obtain ⟨b1, o1, rfl, _, hb1, G0⟩ := rd_flat (size := 2) (fun _ => rfl) (by omega) hr hl
      have HC := Lib.hid (HF.out xs[k] (List.getElem_mem _) wr e1)
      have hsnoc := Lib.hid (show (xs.take (k + 1)).any p = ((xs.take k).any p || p xs[k]) by rw [List.take_succ_eq_append_getElem hl, List.any_append]; simp)
      have hyes := Lib.hid (fun h : p xs[k] = true => List.any_eq_true.2 ⟨xs[k], List.getElem_mem _, h⟩)
      have G : ∀ j u, (Wrt.cells xs[k])[j]? = some u → wr.cell? ⟨b1, o1 + k * 2 + j, none⟩ = some u := fun j u hu => by rw [Below.cell e1 hb1]; exact G0 j u hu
      generalize xs[k] = x at *
      have g0 := G 0 _ rfl; have g1 := G 1 _ rfl
      simp only [Nat.add_zero, Nat.mul_one] at g0
      clear G G0
      go_wp2_with fail
      refine HC.out.mono ?_
      rintro e w2 ⟨rfl, e2⟩
      cases ho : p x
      · go_wp2_with fail
        go_roundw
        case rel =>
          exact ⟨k + 1, by omega, by go_num, Lib.hid (by rw [hsnoc.out, HK.out, ho]; rfl), by exact blo⟩
        case measure => simp [intOf]; omega
      · go_wp2_with fail
        go_ret
        refine ⟨k, rfl, ?_, by omega, by exact blo⟩
        rw [hyes.out ho]
        simp
    · go_wp2_with fail
      go_ret
      obtain rfl : k = n := by omega
      have h1 := HK.out
      rw [List.take_of_length_le (by rw [← Hn.out]; exact Nat.le_refl _)] at h1
      exact ⟨-1, rfl, by rw [h1]; rfl, by omega, e1⟩
theorem conw_any (w : World) (A : Option Addr) (n c : Nat) (xs : List Wrt) (hn : n = xs.length) (hm : n ≤ 9223372036854775807) (hr : Rd w 0 w.heap.size A (xs.flatMap Wrt.cells)) (p : Wrt → Bool) (F : Value) (f : FuncId) (caps : Array Value) (hf : F = .func (.func f) #[] caps) (hcf : ∀ args w, (callFunc f args).run Tryz.prog w = .ok (.enter f args) w)
    (hF : ∀ x ∈ xs, ∀ w1, Ext w w1 → Calls Tryz.prog f (#[.agg x.cells.toArray] ++ caps) w1 fun e w' => e = .returned (.bool (p x)) ∧ Ext w1 w') :
    Calls Tryz.prog 85 #[.slice A n c, F] w fun e w' => e = .returned (.bool (xs.any p)) ∧ Ext w w' := by
  have H := Lib.hid (idxw_any w A n c xs hn hm hr p F f caps hf hcf hF)
  clear hn hF hr hm hf hcf
  go_enter Tryz.func85, Tryz.ntmps85
  go_wp2_with fail
  refine H.out.mono ?_
  rintro e w2 ⟨r, rfl, hany, hr1, e2⟩
  have HA := Lib.hid hany
  clear hany
  go_wp2_with fail
  go_ret
  exact ⟨by rw [HA.out]; rfl, e2⟩
def oddO (s : Oct) : Bool := s.n != 64
theorem odd_any (s : Oct) (w : World) (hm : s.n ≤ 9223372036854775807) : Calls Tryz.prog 84 #[s.val] w fun e w' => e = .returned (.bool (oddO s)) ∧ Ext w w' := by
  have h : Hid (oddO s = ((s.n : Int) != 64)) := Lib.hid (by rw [oddO, Bool.eq_iff_iff]; simp; omega)
  obtain ⟨A, n, c, xs⟩ := s
  simp only [Sl.val] at *
  go_enter Tryz.func84, Tryz.ntmps84
  go_wp2_with fail
  go_ret
  exact ⟨retB (by rw [h.out]), Ext.refl _⟩
def badW (n : Nat) (x : Wrt) : Bool := decide (x.pos < 0) || decide ((n : Int) ≤ x.pos) || oddO x.data
theorem chk1_any (x : Wrt) (n : Nat) (b : Nat) (w : World) (h0 : -9223372036854775808 ≤ x.pos) (h1 : x.pos ≤ 9223372036854775807) (hm : x.data.n ≤ 9223372036854775807) (hb : w.cell? ⟨b, 0, none⟩ = some (.int .i64 n)) :
    Calls Tryz.prog 86 #[.agg x.cells.toArray, .pointer (some ⟨b, 0, none⟩)] w fun e w' => e = .returned (.bool (badW n x)) ∧ Ext w w' := by
  have hlt : b < w.heap.size := World.block_lt_of_cell? w _ hb
  have H := Lib.hid (fun w1 => odd_any x.data w1 hm)
  have hB := Lib.hid (show badW n x = (decide (x.pos < 0) || decide ((n : Int) ≤ x.pos) || oddO x.data) from rfl)
  generalize badW n x = v at *
  generalize oddO x.data = o at *
  obtain ⟨pos, A, m, c, xs⟩ := x
  simp only [Wrt.cells, Sl.val] at *
  go_enter Tryz.func86, Tryz.ntmps86
  go_wp2_with (refine (H.out _).mono ?_; rintro e w2 ⟨rfl, e2⟩)
  all_goals (go_ret; refine ⟨retB ?_, by exact blo⟩; rw [hB.out]; try (first | (simp [*]; done) | (simp [*]; omega) | (cases o <;> simp [*] <;> omega)))
def chkE (d : Dev) : Int := if d.secs.n < 2 ∨ 8192 < d.secs.n ∨ d.secs.xs.any oddO = true then 9 else if d.waits.xs.any (badW d.secs.n) = true then 9 else 0
theorem call_odd : ∀ args w, (callFunc 84 args).run Tryz.prog w = .ok (.enter 84 args) w := callF Tryz.func84 (by kernel_rfl) rfl
theorem call_chk1 : ∀ args w, (callFunc 86 args).run Tryz.prog w = .ok (.enter 86 args) w := callF Tryz.func86 (by kernel_rfl) rfl
set_option maxHeartbeats 1000000 in
theorem chk_any (d : Dev) (w : World) (h : Dev.At w 0 w.heap.size d) : Calls Tryz.prog 39 #[.agg d.cells.toArray] w fun e w' => e = .returned (.int .i64 (chkE d)) ∧ Ext w w' := by
  have m1 : d.secs.n ≤ 9223372036854775807 := Nat.le_trans h.secs.le h.secs.cap
  have m2 : d.waits.n ≤ 9223372036854775807 := Nat.le_trans h.waits.le h.waits.cap
  have H1 := Lib.hid (fun w1 (e1 : Ext w w1) => cono_any w1 d.secs.A d.secs.n d.secs.c d.secs.xs h.secs.len m1 (Rd.at h.secs.rd e1 (Nat.le_refl _)) oddO (.func (.func 84) #[] #[]) 84 #[] rfl call_odd
    (fun x hx w2 _ => odd_any x w2 (Nat.le_trans (h.secs.all x hx).le (h.secs.all x hx).cap)))
  have H2 := Lib.hid (fun w1 b (e1 : Ext w w1) (hb : w1.cell? ⟨b, 0, none⟩ = some (.int .i64 d.secs.n)) => conw_any w1 d.waits.A d.waits.n d.waits.c d.waits.xs h.waits.len m2 (Rd.at h.waits.rd e1 (Nat.le_refl _)) (badW d.secs.n)
    (.func (.func 86) #[] #[.pointer (some ⟨b, 0, none⟩)]) 86 #[.pointer (some ⟨b, 0, none⟩)] rfl call_chk1
    (fun x hx w2 e2 => chk1_any x d.secs.n b w2 (h.waits.all x hx).p0 (h.waits.all x hx).p1 (Nat.le_trans (h.waits.all x hx).data.le (h.waits.all x hx).data.cap) ((Below.cell e2 (World.block_lt_of_cell? w1 _ hb)).trans hb)))
  have hv : Hid (chkE d = if d.secs.n < 2 ∨ 8192 < d.secs.n ∨ d.secs.xs.any oddO = true then 9 else if d.waits.xs.any (badW d.secs.n) = true then 9 else 0) := Lib.hid rfl
  clear h
  generalize chkE d = v at *
  generalize d.secs.xs.any oddO = b1 at *
  generalize d.waits.xs.any (badW d.secs.n) = b2 at *
  obtain ⟨⟨A, n, c, xs⟩, ⟨B, m, k, ys⟩⟩ := d
  simp only [Dev.cells, Sl.val] at *
  have hcase : n < 2 ∨ (2 ≤ n ∧ 8192 < n) ∨ (2 ≤ n ∧ n ≤ 8192) := by omega
  rcases hcase with q0 | ⟨q0, q1⟩ | ⟨q0, q1⟩
  · have hv2 := Lib.hid (show v = 9 by rw [hv.out, if_pos (.inl q0)])
    go_enter Tryz.func39, Tryz.ntmps39
    go_wp2_with fail
    go_ret
    exact ⟨retI hv2.out.symm, by exact blo⟩
  · have hv2 := Lib.hid (show v = 9 by rw [hv.out, if_pos (.inr (.inl q1))])
    go_enter Tryz.func39, Tryz.ntmps39
    go_wp2_with fail
    go_ret
    exact ⟨retI hv2.out.symm, by exact blo⟩
  · have hv2 := Lib.hid (show v = if b1 = true then 9 else if b2 = true then 9 else 0 by
      rw [hv.out]
      cases b1
      · rw [if_neg (by simp; omega)]; rfl
      · rw [if_pos (.inr (.inr rfl))]; rfl)
    go_enter Tryz.func39, Tryz.ntmps39
    go_wp2_with (first
      | (go_at_call 83; refine (H1.out _ (by exact blo)).mono ?_; rintro e w2 ⟨rfl, e2⟩; obtain ⟨p1, p2⟩ := bcell e2; have z2 : w.heap.size + 1 < w2.heap.size := (by have := e2.size; simp at this; omega))
      | (go_at_call 85; refine (H2.out _ _ (by exact blo) (by go_simp)).mono ?_; rintro e w3 ⟨rfl, e3⟩))
    all_goals (go_ret; refine ⟨retI ?_, by exact blo⟩; rw [hv2.out]; (first | (simp [*]; done) | (exfalso; omega) | (cases b1 <;> cases b2 <;> (first | (simp_all; done) | (simp_all; omega)))))
end Go.Proofs.YtfongpdeflfioaaGreat
