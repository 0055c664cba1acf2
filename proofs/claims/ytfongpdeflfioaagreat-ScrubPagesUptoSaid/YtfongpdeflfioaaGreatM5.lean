/- The texts Opens, Dat, Dev1, Std in one file. -/
import Derived.Test.YtfongpdeflfioaaGreatM4
import Derived.Test.YtfongpdeflfioaaGreatM1
import Derived.IntWalk
import Derived.Deep.DeepCutAuto
/- Arguments that come in, of whatever nested type, as Lean's own data: openers that are put together. -/
namespace Go.Proofs.YtfongpdeflfioaaGreat
open Go.RowKit Go.ChangeShapes Go.WideShapes Go.Deep Go.Joins

/-- a slice's header and what it reads as -/
structure Sl (α : Type) where
  A : Option Addr
  n : Nat
  c : Nat
  xs : List α
def Sl.val {α : Type} (s : Sl α) : Value := .slice s.A s.n s.c
/-- what is said of a slice that came in: its row reads; its elements are so -/
structure Sl.In {α : Type} (P : Program) (w : World) (e : TypeId) (cells : α → List Value) (I : α → Prop) (s : Sl α) : Prop where
  len : s.n = s.xs.length
  le : s.n ≤ s.c
  cap : s.c ≤ maxLen
  bytes : s.n * P.bytesOf e ≤ reachBytes
  rd : Rd w 0 w.heap.size s.A (s.xs.flatMap cells)
  all : ∀ x ∈ s.xs, I x
section
variable {H : Type} {enc : TypeId × Value → H} {P : Program} {w : World} {t e : TypeId} {α β : Type}
/-- Whatever reads as a value of type t within the form's reach are the cells of some datum of which I holds. -/
def Opens (enc : TypeId × Value → H) (P : Program) (w : World) (t : TypeId) (cells : α → List Value) (I : α → Prop) : Prop :=
  ∀ (spare : Nat → Bool) (held : Bool) (fuel : Nat) (cs : List Value) (x : DataW H × List MemPlace), DataW.trod enc P w 0 spare held fuel t cs = some x → (∀ n ∈ x.1.weights P t, n ≤ reachBytes) → ∃ a, cs = cells a ∧ I a
theorem opens_int {k : IntKind} (ht : P.underlying t = some (.int k)) : Opens enc P w t (fun z : Int => [.int k z]) (fun z => k.min ≤ z ∧ z ≤ k.max) := fun _ _ _ _ _ h _ => by
  obtain ⟨n, rfl, _, hw⟩ := DataW.trod_int ht h
  simp only [Lit.wf, Bool.and_eq_true, decide_eq_true_eq] at hw
  exact ⟨n, rfl, hw⟩
theorem opens_bool (ht : P.underlying t = some .bool) : Opens enc P w t (fun z : Bool => [.bool z]) (fun _ => True) := fun _ _ _ _ _ h _ => by
  obtain ⟨n, rfl, _⟩ := DataW.trod_bool ht h
  exact ⟨n, rfl, trivial⟩
theorem opens_str (ht : P.underlying t = some .string) : Opens enc P w t (fun s : ByteArray => [.string s]) (fun s => s.size ≤ reachBytes) := fun _ _ _ _ _ h hw => by
  obtain ⟨s, rfl, rfl, _⟩ := DataW.trod_string ht h
  refine ⟨s, rfl, ?_⟩
  have := hw s.data.toList.length (by simp [DataW.weights])
  rw [Array.length_toList] at this
  exact this
theorem Opens.map {cells : α → List Value} {I : α → Prop} {cells' : β → List Value} {I' : β → Prop} (h : Opens enc P w t cells I) (f : α → β) (hc : ∀ a, I a → cells a = cells' (f a)) (hi : ∀ a, I a → I' (f a)) : Opens enc P w t cells' I' := fun _ _ _ _ _ h1 h2 => by
  obtain ⟨a, rfl, ha⟩ := h _ _ _ _ _ h1 h2
  exact ⟨f a, hc a ha, hi a ha⟩
theorem flat_get {cells : α → List Value} {size : Nat} (hs : ∀ a, (cells a).length = size) (xs : List α) (k j : Nat) (hj : j < size) (hk : k < xs.length) : (xs.flatMap cells)[k * size + j]? = (cells xs[k])[j]? := by
  induction xs generalizing k with
  | nil => simp at hk
  | cons x xs ih =>
    rw [List.flatMap_cons]
    cases k with
    | zero => rw [List.getElem?_append_left (by rw [hs]; omega)]; simp
    | succ k =>
      rw [List.getElem?_append_right (by rw [hs, Nat.succ_mul]; omega), hs, show (k + 1) * size + j - size = k * size + j by rw [Nat.succ_mul]; omega, ih k (by simpa using hk)]
      simp
theorem flat_length {cells : α → List Value} {size : Nat} (hs : ∀ a, (cells a).length = size) (xs : List α) : (xs.flatMap cells).length = xs.length * size := by
  induction xs with
  | nil => simp
  | cons x xs ih => rw [List.flatMap_cons, List.length_append, ih, hs, List.length_cons, Nat.succ_mul]; omega
theorem weights_all {l : List (DataW H)} {d : DataW H} (h : d ∈ l) : ∀ n ∈ d.weights P e, n ∈ DataW.weightsAll P e l := by
  induction l with
  | nil => cases h
  | cons x l ih =>
    intro n hn
    simp only [DataW.weightsAll, List.mem_append]
    rcases List.mem_cons.1 h with rfl | h
    · exact .inl hn
    · exact .inr (ih h n hn)
theorem opens_slice (size : Nat) {cells : α → List Value} {I : α → Prop} (ht : P.underlying t = some (.slice e)) (hC : P.cellsOf e = size) (h0 : 0 < size) (hs : ∀ a, (cells a).length = size) (el : Opens enc P w e cells I) :
    Opens enc P w t (fun s : Sl α => [s.val]) (Sl.In P w e cells I) := fun spare held fuel cs x h hw => by
  subst hC
  rcases open_slice ht h with ⟨rfl, rfl⟩ | ⟨a, len, cap, m, n, D, Pl, rfl, _, hl, hm, hmm, rfl, hi⟩
  · exact ⟨⟨none, 0, 0, []⟩, rfl, ⟨rfl, Nat.le_refl _, Nat.zero_le _, by simp, Rd.nil, fun _ h => by simp at h⟩⟩
  · have hnm : len ≤ m := by rw [hmm]; split <;> omega
    have hb : len * P.bytesOf e ≤ reachBytes := by
      have := hw _ (by simp only [DataW.weights, ht]; exact List.mem_cons_self)
      simp only [List.length_map, List.length_range] at this
      exact Nat.le_trans (Nat.mul_le_mul_right _ (by omega)) this
    rcases Nat.eq_zero_or_pos len with hlen | hlen
    · subst hlen
      exact ⟨⟨some a, 0, cap, []⟩, rfl, ⟨rfl, hl, hm, hb, Rd.nil, fun _ h => by simp at h⟩⟩
    · have one : ∀ i, i < len → ∃ y : α, I y ∧ ∀ j u, (cells y)[j]? = some u → w.cell? (a.add (i * P.cellsOf e + j)) = some u := by
        intro i hil
        obtain ⟨cs', hc, ht'⟩ := hi i (by omega)
        obtain ⟨y, rfl, hy⟩ := el _ _ _ _ _ ht' (fun n hn => hw n (by
          simp only [DataW.weights, ht, List.mem_cons, List.mem_append]
          exact .inr (.inl (weights_all (List.mem_map_of_mem (List.mem_range.2 hil)) n hn))))
        obtain ⟨_, _, hat⟩ := World.cells?_some hc
        refine ⟨y, hy, fun j u hu => ?_⟩
        have hj : j < P.cellsOf e := by
          have := (List.getElem?_eq_some_iff.1 hu).1
          rwa [hs] at this
        rw [← Go.Deep.add_add, hat j hj, hu]
      have key : ∀ i, ∃ y : α, i < len → I y ∧ ∀ j u, (cells y)[j]? = some u → w.cell? (a.add (i * P.cellsOf e + j)) = some u := by
        intro i
        by_cases hil : i < len
        · obtain ⟨y, h1, h2⟩ := one i hil
          exact ⟨y, fun _ => ⟨h1, h2⟩⟩
        · obtain ⟨y, _⟩ := one 0 hlen
          exact ⟨y, fun h => absurd h hil⟩
      obtain ⟨g, hg⟩ := Classical.axiomOfChoice key
      refine ⟨⟨some a, len, cap, (List.range len).map g⟩, rfl, ⟨by simp, hl, hm, hb, plain_of_cells fun i u hu => ?_, fun x hx => ?_⟩⟩
      · have hil : i < len * P.cellsOf e := by
          have := (List.getElem?_eq_some_iff.1 hu).1
          rw [flat_length hs] at this
          simpa using this
        have hk : i / P.cellsOf e < len := Nat.div_lt_of_lt_mul (by rw [Nat.mul_comm]; exact hil)
        have hij : i / P.cellsOf e * P.cellsOf e + i % P.cellsOf e = i := Nat.div_add_mod' i (P.cellsOf e)
        rw [← hij, flat_get hs _ _ _ (Nat.mod_lt _ h0) (by simpa using hk)] at hu
        simp only [List.getElem_map, List.getElem_range] at hu
        rw [← hij]
        exact (hg _ hk).2 _ u hu
      · simp only [List.mem_map, List.mem_range] at hx
        obtain ⟨i, hil, rfl⟩ := hx
        exact (hg i hil).1
/-- the fields of a struct, from one on, whose cells stand from off on; L cells in all -/
def OpensF (enc : TypeId × Value → H) (P : Program) (w : World) (L : Nat) (fs : List Field) (off : Nat) (cells : α → List Value) (I : α → Prop) : Prop :=
  ∀ (spare : Nat → Bool) (held : Bool) (fuel : Nat) (cs : List Value) (ys : List (DataW H × List MemPlace)), cs.length = L → ys.length = fs.length →
    (∀ (i : Nat) (f : Field), fs[i]? = some f → DataW.trod enc P w 0 spare held fuel f.type ((cs.drop f.offset).take (P.cellsOf f.type)) = ys[i]?) →
    (∀ n ∈ DataW.weightsEach P (fs.map (·.type)) (ys.map (·.1)), n ≤ reachBytes) → ∃ a, cs.drop off = cells a ∧ I a
theorem OpensF.nil {L : Nat} : OpensF enc P w L [] L (fun _ : Unit => []) (fun _ => True) := fun _ _ _ cs _ hl _ _ _ => ⟨(), List.drop_eq_nil_of_le (by omega), trivial⟩
theorem OpensF.cons (size : Nat) {L off : Nat} {f : Field} {fs : List Field} {cells : α → List Value} {I : α → Prop} {cells' : β → List Value} {I' : β → Prop} (h : Opens enc P w f.type cells I) (ho : f.offset = off) (hc : P.cellsOf f.type = size)
    (r : OpensF enc P w L fs (off + size) cells' I') : OpensF enc P w L (f :: fs) off (fun x : α × β => cells x.1 ++ cells' x.2) (fun x => I x.1 ∧ I' x.2) := fun spare held fuel cs ys hl hy hf hw => by
  subst ho hc
  cases ys with
  | nil => simp at hy
  | cons y ys =>
    obtain ⟨a, ha, hi⟩ := h _ _ _ _ y (hf 0 f rfl) (fun n hn => hw n (by simp only [List.map_cons, DataW.weightsEach, List.mem_append]; exact .inl hn))
    obtain ⟨b, hb, hj⟩ := r spare held fuel cs ys hl (by simpa using hy) (fun i g hg => hf (i + 1) g hg) (fun n hn => hw n (by simp only [List.map_cons, DataW.weightsEach, List.mem_append]; exact .inr hn))
    refine ⟨(a, b), ?_, hi, hj⟩
    show _ = cells a ++ cells' b
    rw [← ha, ← hb, ← List.drop_drop, List.take_append_drop]
theorem opens_struct {L : Nat} {fs : Array Field} {cells : α → List Value} {I : α → Prop} (hu : P.underlying t = some (.struct fs)) (hL : P.cellsOf t = L) (hF : OpensF enc P w L fs.toList 0 cells I) : Opens enc P w t cells I := fun spare held fuel cs x h hw => by
  obtain ⟨ys, n, _, rfl, hlen, hyl, hf⟩ := DataW.trod_struct hu h
  obtain ⟨a, ha, hi⟩ := hF spare held n cs ys (hlen.trans hL) (by simpa using hyl) (fun i f hif => hf i f (by simpa using hif)) (fun n hn => hw n (by simp only [DataW.weights, hu]; exact hn))
  exact ⟨a, by simpa using ha, hi⟩
/-- a parameter that is a struct -/
theorem Opens.param_struct {fs : Array Field} {cells : α → List Value} {I : α → Prop} (h : Opens enc P w t cells I) (hu : P.underlying t = some (.struct fs)) {r : Reach} {b0 : Nat} {spare : Nat → Bool} {held : Bool} {v : Value} {d : DataW H} {p : List MemPlace}
    (hv : Value.okWide P w r b0 t v) (ht : DataW.Trod enc P w 0 spare held t v d p) (hw : ∀ n ∈ d.weights P t, n ≤ reachBytes) : ∃ a, v = .agg (cells a).toArray ∧ I a := by
  obtain ⟨cs, rfl, _⟩ := okWide_struct hu hv
  obtain ⟨fuel, hf⟩ := ht
  obtain ⟨a, ha, hi⟩ := h _ _ _ _ _ hf hw
  exact ⟨a, by rw [← ha]; rfl, hi⟩
/-- a parameter that is a slice -/
theorem Opens.param_slice {I : Sl α → Prop} (h : Opens enc P w t (fun s : Sl α => [s.val]) I) (ht : P.underlying t = some (.slice e)) {r : Reach} {b0 : Nat} {spare : Nat → Bool} {held : Bool} {v : Value} {d : DataW H} {p : List MemPlace}
    (hv : Value.okWide P w r b0 t v) (htr : DataW.Trod enc P w 0 spare held t v d p) (hw : ∀ n ∈ d.weights P t, n ≤ reachBytes) : ∃ s : Sl α, v = s.val ∧ I s := by
  obtain ⟨A, n, c, rfl⟩ := okWide_slice ht hv
  obtain ⟨fuel, hf⟩ := htr
  obtain ⟨a, ha, hi⟩ := h _ _ _ _ _ hf hw
  exact ⟨a, by simpa [Value.cells] using ha, hi⟩
theorem weights_arg {ts : List TypeId} {ds : List (DataW H)} (h : (DataW.weightsEach P ts ds).all (· ≤ reachBytes) = true) {j : Nat} {d : DataW H} (ht : ts[j]? = some t) (hd : ds[j]? = some d) : ∀ n ∈ d.weights P t, n ≤ reachBytes := fun n hn => by
  have := List.all_eq_true.1 h _ (DataW.weights_mem_each ht hd n hn)
  simpa using this
end
end Go.Proofs.YtfongpdeflfioaaGreat
/- Slices whose elements are read as Lean's own data; octets; a device. -/
namespace Go.Proofs.YtfongpdeflfioaaGreat
open Go.RowKit

theorem retB {a b : Bool} (h : a = b) : Ending.returned (.bool a) = Ending.returned (.bool b) := by rw [h]
theorem retI {k : IntKind} {a b : Int} (h : a = b) : Ending.returned (.int k a) = Ending.returned (.int k b) := by rw [h]
theorem bcell {W w1 : World} (hb : Ext W w1) : (∀ b o, b < W.heap.size → w1.cell? ⟨b, o, none⟩ = W.cell? ⟨b, o, none⟩) ∧ (∀ b o, b < W.heap.size → w1.frozen? ⟨b, o, none⟩ = W.frozen? ⟨b, o, none⟩) :=
  ⟨fun b o h => Below.cell (p := ⟨b, o, none⟩) hb h, fun b o h => Below.frozen (p := ⟨b, o, none⟩) hb h⟩

theorem callF {P : Program} {f : FuncId} {fn : Func} {c : Code} (hf : P.funcs[f]? = some fn) (hname : (fn.name == "runtime.NumGoroutine") = false) (hb : fn.body = some c) : ∀ args w, (callFunc f args).run P w = .ok (.enter f args) w := fun args w => by
  have h1 : fn.name ≠ "runtime.NumGoroutine" := by simpa using hname
  simp [callFunc, hf, h1, hb]

/-- element k of a row of structs -/
theorem rd_flat {α : Type} {cells : α → List Value} {size : Nat} (hs : ∀ a, (cells a).length = size) (h0 : 0 < size) {w : World} {lo hi : Nat} {A : Option Addr} {xs : List α} (h : Rd w lo hi A (xs.flatMap cells)) {k : Nat} (hk : k < xs.length) :
    ∃ b o, A = some ⟨b, o, none⟩ ∧ lo ≤ b ∧ b < hi ∧ ∀ j u, (cells xs[k])[j]? = some u → w.cell? ⟨b, o + k * size + j, none⟩ = some u := by
  obtain ⟨b, o, h1, h2, h3, h4⟩ := h (fun e => by
    have := flat_length hs xs
    rw [e] at this
    have := Nat.mul_pos (show 0 < xs.length by omega) h0
    simp at *
    omega)
  refine ⟨b, o, h1, h2, h3, fun j u hu => ?_⟩
  have hj : j < size := by
    have := (List.getElem?_eq_some_iff.1 hu).1
    rwa [hs] at this
  rw [Nat.add_assoc]
  exact h4 _ u (by rw [flat_get hs xs k j hj hk]; exact hu)

/-- a slice that reads, between two heap sizes, as a list of which each element is so -/
structure Sl.At {α : Type} (w : World) (lo hi : Nat) (cells : α → List Value) (I : α → Prop) (s : Sl α) : Prop where
  len : s.n = s.xs.length
  le : s.n ≤ s.c
  cap : s.c ≤ maxLen
  rd : Rd w lo hi s.A (s.xs.flatMap cells)
  all : ∀ x ∈ s.xs, I x
theorem Sl.At.imp {α : Type} {w w' : World} {lo hi lo' hi' : Nat} {cells : α → List Value} {I I' : α → Prop} {s : Sl α} (h : Sl.At w lo hi cells I s) (hr : Rd w lo hi s.A (s.xs.flatMap cells) → Rd w' lo' hi' s.A (s.xs.flatMap cells)) (hi : ∀ x, I x → I' x) : Sl.At w' lo' hi' cells I' s :=
  ⟨h.len, h.le, h.cap, hr h.rd, fun x hx => hi x (h.all x hx)⟩
def octc (b : UInt8) : List Value := [.int .u8 (b.toNat : Int)]
theorem octs_flat (l : List UInt8) : l.flatMap octc = bytes l := by
  induction l with
  | nil => rfl
  | cons b l ih => rw [List.flatMap_cons, ih]; rfl
abbrev Oct := Sl UInt8
abbrev Oct.At (w : World) (lo hi : Nat) (s : Oct) : Prop := Sl.At w lo hi octc (fun _ => True) s
theorem Oct.At.rdb {w : World} {lo hi : Nat} {s : Oct} (h : Oct.At w lo hi s) : Rd w lo hi s.A (bytes s.xs) := by rw [← octs_flat]; exact h.rd
def octv (s : Oct) : List Value := [s.val]
structure Wrt where
  pos : Int
  data : Oct
def Wrt.cells (x : Wrt) : List Value := [.int .i64 x.pos, x.data.val]
structure Wrt.At (w : World) (lo hi : Nat) (x : Wrt) : Prop where
  p0 : -9223372036854775808 ≤ x.pos
  p1 : x.pos ≤ 9223372036854775807
  data : Oct.At w lo hi x.data
structure Dev where
  secs : Sl Oct
  waits : Sl Wrt
def Dev.cells (d : Dev) : List Value := [d.secs.val, d.waits.val]
structure Dev.At (w : World) (lo hi : Nat) (d : Dev) : Prop where
  secs : Sl.At w lo hi octv (Oct.At w lo hi) d.secs
  waits : Sl.At w lo hi Wrt.cells (Wrt.At w lo hi) d.waits
section
variable {w w' : World} {lo hi lo' hi' : Nat}
theorem Oct.At.imp {s : Oct} (h : Oct.At w lo hi s) (hr : ∀ A cs, Rd w lo hi A cs → Rd w' lo' hi' A cs) : Oct.At w' lo' hi' s := Sl.At.imp h (hr _ _) (fun _ h => h)
theorem Wrt.At.imp {x : Wrt} (h : Wrt.At w lo hi x) (hr : ∀ A cs, Rd w lo hi A cs → Rd w' lo' hi' A cs) : Wrt.At w' lo' hi' x := ⟨h.p0, h.p1, Oct.At.imp h.data hr⟩
theorem Dev.At.imp {d : Dev} (h : Dev.At w lo hi d) (hr : ∀ A cs, Rd w lo hi A cs → Rd w' lo' hi' A cs) : Dev.At w' lo' hi' d :=
  ⟨Sl.At.imp h.secs (hr _ _) (fun _ hx => Oct.At.imp hx hr), Sl.At.imp h.waits (hr _ _) (fun _ hx => Wrt.At.imp hx hr)⟩
/-- what reads reads on, up to the later world's end -/
theorem rd_on (e : Ext w w') (hh : hi ≤ w.heap.size) : ∀ A cs, Rd w lo hi A cs → Rd w' lo w'.heap.size A cs := fun _ _ h => Rd.at h (Below.mono e hh) hh
theorem Dev.At.on {d : Dev} (h : Dev.At w lo hi d) (e : Ext w w') (hh : hi ≤ w.heap.size) : Dev.At w' lo w'.heap.size d := h.imp (rd_on e hh)
theorem Oct.At.on {d : Oct} (h : Oct.At w lo hi d) (e : Ext w w') (hh : hi ≤ w.heap.size) : Oct.At w' lo w'.heap.size d := Oct.At.imp h (rd_on e hh)
theorem Dev.At.low {d : Dev} (h : Dev.At w lo hi d) (hl : lo' ≤ lo) : Dev.At w lo' hi d := h.imp fun _ _ h => h.more hl (Nat.le_refl _)
theorem Oct.At.low {d : Oct} (h : Oct.At w lo hi d) (hl : lo' ≤ lo) : Oct.At w lo' hi d := Oct.At.imp h fun _ _ h => h.more hl (Nat.le_refl _)
end
end Go.Proofs.YtfongpdeflfioaaGreat
/- slices.IndexFunc, ContainsFunc over octets and writes; device.Check. -/
namespace Go.Proofs.YtfongpdeflfioaaGreat
open Go.RowKit
set_option linter.unusedSimpArgs false

set_option maxHeartbeats 400000 in
theorem idxo_any (w : World) (A : Option Addr) (n c : Nat) (xs : List Oct) (hn : n = xs.length) (hm : n ≤ 9223372036854775807) (hr : Rd w 0 w.heap.size A (xs.flatMap octv)) (p : Oct → Bool) (F : Value) (f : FuncId) (caps : Array Value) (hf : F = .func (.func f) #[] caps) (hcf : ∀ args w, (callFunc f args).run Tryz.prog w = .ok (.enter f args) w)
    (hF : ∀ x ∈ xs, ∀ w1, Ext w w1 → Calls Tryz.prog f (#[x.val] ++ caps) w1 fun e w' => e = .returned (.bool (p x)) ∧ Ext w1 w') :
    Calls Tryz.prog 124 #[.slice A n c, F] w fun e w' => ∃ r : Int, e = .returned (.int .i64 r) ∧ xs.any p = decide (0 ≤ r) ∧ -1 ≤ r ∧ Ext w w' := by
  subst hf
  have Hn := Lib.hid hn
  have HF := Lib.hid hF
  clear hn hF
  go_enter Tryz.func124, Tryz.ntmps124
  go_wp2_with fail
  go_loopw [8] (fun i wr => ∃ k : Nat, k ≤ n ∧ i = .int .i64 k ∧ Hid ((xs.take k).any p = false) ∧ Ext w wr) (fun i _ => n - (intOf i).toNat)
  case atStart => exact ⟨0, Nat.zero_le _, rfl, Lib.hid rfl, Ext.refl _⟩
  case round =>
    obtain ⟨k, hk, rfl, HK, e1⟩ := hrel
    by_cases hlt : k < n
    · have hl : k < xs.length := by rw [← Hn.out]; omega
      obtain ⟨b1, o1, rfl, _, hb1, G0⟩ := rd_flat (size := 1) (fun _ => rfl) (by omega) hr hl
      have HC := Lib.hid (HF.out xs[k] (List.getElem_mem _) wr e1)
      have hsnoc := Lib.hid (show (xs.take (k + 1)).any p = ((xs.take k).any p || p xs[k]) by rw [List.take_succ_eq_append_getElem hl, List.any_append]; simp)
      have hyes := Lib.hid (fun h : p xs[k] = true => List.any_eq_true.2 ⟨xs[k], List.getElem_mem _, h⟩)
      have G : ∀ j u, (octv xs[k])[j]? = some u → wr.cell? ⟨b1, o1 + k * 1 + j, none⟩ = some u := fun j u hu => by rw [Below.cell e1 hb1]; exact G0 j u hu
      generalize xs[k] = x at *
      have g0 := G 0 _ rfl
      simp only [Nat.add_zero, Nat.mul_one] at g0
      clear G G0
      go_wp2_with fail
      refine HC.out.mono ?_
      rintro e w2 ⟨rfl, e2⟩
      cases ho : p x
      · go_wp2_with fail
        go_roundw
        case rel =>
          exact ⟨k + 1, by omega, by go_num, Lib.hid (by rw [hsnoc.out, HK.out, ho]; rfl), by (repeat (first | exact Below.refl _ _ | exact Ext.refl _ | assumption | refine Below.drew ?_ | refine below_drewN ?_ _ | refine below_alloc ?_ (by first | exact Nat.le_refl _ | assumption | (simp; done) | omega | (simp; omega)) _ | refine below_ext ?_ (by assumption) (by first | exact Nat.le_refl _ | assumption | (simp; done) | omega | (simp; omega)) | refine Ext.drew ?_ | refine Ext.drewN ?_ _ | refine Ext.alloc ?_ _ | refine Ext.setCell ?_ (by first | assumption | (simp; done) | (simp; omega)) _ | refine Below.setCell ?_ (by first | assumption | (simp; done) | (simp; omega)) _ | refine Ext.trans ?_ (by assumption)))⟩
        case measure => simp [intOf]; omega
      · go_wp2_with fail
        go_ret
        refine ⟨k, rfl, ?_, by omega, by (repeat (first | exact Below.refl _ _ | exact Ext.refl _ | assumption | refine Below.drew ?_ | refine below_drewN ?_ _ | refine below_alloc ?_ (by first | exact Nat.le_refl _ | assumption | (simp; done) | omega | (simp; omega)) _ | refine below_ext ?_ (by assumption) (by first | exact Nat.le_refl _ | assumption | (simp; done) | omega | (simp; omega)) | refine Ext.drew ?_ | refine Ext.drewN ?_ _ | refine Ext.alloc ?_ _ | refine Ext.setCell ?_ (by first | assumption | (simp; done) | (simp; omega)) _ | refine Below.setCell ?_ (by first | assumption | (simp; done) | (simp; omega)) _ | refine Ext.trans ?_ (by assumption)))⟩
        rw [hyes.out ho]
        simp
    · go_wp2_with fail
      go_ret
      obtain rfl : k = n := by omega
      have h1 := HK.out
      rw [List.take_of_length_le (by rw [← Hn.out]; exact Nat.le_refl _)] at h1
      exact ⟨-1, rfl, by rw [h1]; rfl, by omega, e1⟩
theorem cono_any (w : World) (A : Option Addr) (n c : Nat) (xs : List Oct) (hn : n = xs.length) (hm : n ≤ 9223372036854775807) (hr : Rd w 0 w.heap.size A (xs.flatMap octv)) (p : Oct → Bool) (F : Value) (f : FuncId) (caps : Array Value) (hf : F = .func (.func f) #[] caps) (hcf : ∀ args w, (callFunc f args).run Tryz.prog w = .ok (.enter f args) w)
    (hF : ∀ x ∈ xs, ∀ w1, Ext w w1 → Calls Tryz.prog f (#[x.val] ++ caps) w1 fun e w' => e = .returned (.bool (p x)) ∧ Ext w1 w') :
    Calls Tryz.prog 83 #[.slice A n c, F] w fun e w' => e = .returned (.bool (xs.any p)) ∧ Ext w w' := by
  have H := Lib.hid (idxo_any w A n c xs hn hm hr p F f caps hf hcf hF)
  clear hn hF hr hm hf hcf
  go_enter Tryz.func83, Tryz.ntmps83
  go_wp2_with fail
  refine H.out.mono ?_
  rintro e w2 ⟨r, rfl, hany, hr1, e2⟩
  have HA := Lib.hid hany
  clear hany
  go_wp2_with fail
  go_ret
  exact ⟨by rw [HA.out]; rfl, e2⟩
set_option maxHeartbeats 400000 in
theorem idxw_any (w : World) (A : Option Addr) (n c : Nat) (xs : List Wrt) (hn : n = xs.length) (hm : n ≤ 9223372036854775807) (hr : Rd w 0 w.heap.size A (xs.flatMap Wrt.cells)) (p : Wrt → Bool) (F : Value) (f : FuncId) (caps : Array Value) (hf : F = .func (.func f) #[] caps) (hcf : ∀ args w, (callFunc f args).run Tryz.prog w = .ok (.enter f args) w)
    (hF : ∀ x ∈ xs, ∀ w1, Ext w w1 → Calls Tryz.prog f (#[.agg x.cells.toArray] ++ caps) w1 fun e w' => e = .returned (.bool (p x)) ∧ Ext w1 w') :
    Calls Tryz.prog 125 #[.slice A n c, F] w fun e w' => ∃ r : Int, e = .returned (.int .i64 r) ∧ xs.any p = decide (0 ≤ r) ∧ -1 ≤ r ∧ Ext w w' := by
  subst hf
  have Hn := Lib.hid hn
  have HF := Lib.hid hF
  clear hn hF
  go_enter Tryz.func125, Tryz.ntmps125
  go_wp2_with fail
  go_loopw [8] (fun i wr => ∃ k : Nat, k ≤ n ∧ i = .int .i64 k ∧ Hid ((xs.take k).any p = false) ∧ Ext w wr) (fun i _ => n - (intOf i).toNat)
  case atStart => exact ⟨0, Nat.zero_le _, rfl, Lib.hid rfl, Ext.refl _⟩
  case round =>
    obtain ⟨k, hk, rfl, HK, e1⟩ := hrel
    by_cases hlt : k < n
    · have hl : k < xs.length := by rw [← Hn.out]; omega
      obtain ⟨b1, o1, rfl, _, hb1, G0⟩ := rd_flat (size := 2) (fun _ => rfl) (by omega) hr hl
      have HC := Lib.hid (HF.out xs[k] (List.getElem_mem _) wr e1)
      have hsnoc := Lib.hid (show (xs.take (k + 1)).any p = ((xs.take k).any p || p xs[k]) by rw [List.take_succ_eq_append_getElem hl, List.any_append]; simp)
      have hyes := Lib.hid (fun h : p xs[k] = true => List.any_eq_true.2 ⟨xs[k], List.getElem_mem _, h⟩)
      have G : ∀ j u, (Wrt.cells xs[k])[j]? = some u → wr.cell? ⟨b1, o1 + k * 2 + j, none⟩ = some u := fun j u hu => by rw [Below.cell e1 hb1]; exact G0 j u hu
      generalize xs[k] = x at *
      have g0 := G 0 _ rfl; have g1 := G 1 _ rfl
      simp only [Nat.add_zero, Nat.mul_one] at g0
      clear G G0
      go_wp2_with fail
      refine HC.out.mono ?_
      rintro e w2 ⟨rfl, e2⟩
      cases ho : p x
      · go_wp2_with fail
        go_roundw
        case rel =>
          exact ⟨k + 1, by omega, by go_num, Lib.hid (by rw [hsnoc.out, HK.out, ho]; rfl), by (repeat (first | exact Below.refl _ _ | exact Ext.refl _ | assumption | refine Below.drew ?_ | refine below_drewN ?_ _ | refine below_alloc ?_ (by first | exact Nat.le_refl _ | assumption | (simp; done) | omega | (simp; omega)) _ | refine below_ext ?_ (by assumption) (by first | exact Nat.le_refl _ | assumption | (simp; done) | omega | (simp; omega)) | refine Ext.drew ?_ | refine Ext.drewN ?_ _ | refine Ext.alloc ?_ _ | refine Ext.setCell ?_ (by first | assumption | (simp; done) | (simp; omega)) _ | refine Below.setCell ?_ (by first | assumption | (simp; done) | (simp; omega)) _ | refine Ext.trans ?_ (by assumption)))⟩
        case measure => simp [intOf]; omega
      · go_wp2_with fail
        go_ret
        refine ⟨k, rfl, ?_, by omega, by (repeat (first | exact Below.refl _ _ | exact Ext.refl _ | assumption | refine Below.drew ?_ | refine below_drewN ?_ _ | refine below_alloc ?_ (by first | exact Nat.le_refl _ | assumption | (simp; done) | omega | (simp; omega)) _ | refine below_ext ?_ (by assumption) (by first | exact Nat.le_refl _ | assumption | (simp; done) | omega | (simp; omega)) | refine Ext.drew ?_ | refine Ext.drewN ?_ _ | refine Ext.alloc ?_ _ | refine Ext.setCell ?_ (by first | assumption | (simp; done) | (simp; omega)) _ | refine Below.setCell ?_ (by first | assumption | (simp; done) | (simp; omega)) _ | refine Ext.trans ?_ (by assumption)))⟩
        rw [hyes.out ho]
        simp
    · go_wp2_with fail
      go_ret
      obtain rfl : k = n := by omega
      have h1 := HK.out
      rw [List.take_of_length_le (by rw [← Hn.out]; exact Nat.le_refl _)] at h1
      exact ⟨-1, rfl, by rw [h1]; rfl, by omega, e1⟩
theorem conw_any (w : World) (A : Option Addr) (n c : Nat) (xs : List Wrt) (hn : n = xs.length) (hm : n ≤ 9223372036854775807) (hr : Rd w 0 w.heap.size A (xs.flatMap Wrt.cells)) (p : Wrt → Bool) (F : Value) (f : FuncId) (caps : Array Value) (hf : F = .func (.func f) #[] caps) (hcf : ∀ args w, (callFunc f args).run Tryz.prog w = .ok (.enter f args) w)
    (hF : ∀ x ∈ xs, ∀ w1, Ext w w1 → Calls Tryz.prog f (#[.agg x.cells.toArray] ++ caps) w1 fun e w' => e = .returned (.bool (p x)) ∧ Ext w1 w') :
    Calls Tryz.prog 85 #[.slice A n c, F] w fun e w' => e = .returned (.bool (xs.any p)) ∧ Ext w w' := by
  have H := Lib.hid (idxw_any w A n c xs hn hm hr p F f caps hf hcf hF)
  clear hn hF hr hm hf hcf
  go_enter Tryz.func85, Tryz.ntmps85
  go_wp2_with fail
  refine H.out.mono ?_
  rintro e w2 ⟨r, rfl, hany, hr1, e2⟩
  have HA := Lib.hid hany
  clear hany
  go_wp2_with fail
  go_ret
  exact ⟨by rw [HA.out]; rfl, e2⟩
def oddO (s : Oct) : Bool := s.n != 64
theorem odd_any (s : Oct) (w : World) (hm : s.n ≤ 9223372036854775807) : Calls Tryz.prog 84 #[s.val] w fun e w' => e = .returned (.bool (oddO s)) ∧ Ext w w' := by
  have h : Hid (oddO s = ((s.n : Int) != 64)) := Lib.hid (by rw [oddO, Bool.eq_iff_iff]; simp; omega)
  obtain ⟨A, n, c, xs⟩ := s
  simp only [Sl.val] at *
  go_enter Tryz.func84, Tryz.ntmps84
  go_wp2_with fail
  go_ret
  exact ⟨retB (by rw [h.out]), Ext.refl _⟩
def badW (n : Nat) (x : Wrt) : Bool := decide (x.pos < 0) || decide ((n : Int) ≤ x.pos) || oddO x.data
theorem chk1_any (x : Wrt) (n : Nat) (b : Nat) (w : World) (h0 : -9223372036854775808 ≤ x.pos) (h1 : x.pos ≤ 9223372036854775807) (hm : x.data.n ≤ 9223372036854775807) (hb : w.cell? ⟨b, 0, none⟩ = some (.int .i64 n)) :
    Calls Tryz.prog 86 #[.agg x.cells.toArray, .pointer (some ⟨b, 0, none⟩)] w fun e w' => e = .returned (.bool (badW n x)) ∧ Ext w w' := by
  have hlt : b < w.heap.size := World.block_lt_of_cell? w _ hb
  have H := Lib.hid (fun w1 => odd_any x.data w1 hm)
  have hB := Lib.hid (show badW n x = (decide (x.pos < 0) || decide ((n : Int) ≤ x.pos) || oddO x.data) from rfl)
  generalize badW n x = v at *
  generalize oddO x.data = o at *
  obtain ⟨pos, A, m, c, xs⟩ := x
  simp only [Wrt.cells, Sl.val] at *
  go_enter Tryz.func86, Tryz.ntmps86
  go_wp2_with (refine (H.out _).mono ?_; rintro e w2 ⟨rfl, e2⟩)
  all_goals (go_ret; refine ⟨retB ?_, by (repeat (first | exact Below.refl _ _ | exact Ext.refl _ | assumption | refine Below.drew ?_ | refine below_drewN ?_ _ | refine below_alloc ?_ (by first | exact Nat.le_refl _ | assumption | (simp; done) | omega | (simp; omega)) _ | refine below_ext ?_ (by assumption) (by first | exact Nat.le_refl _ | assumption | (simp; done) | omega | (simp; omega)) | refine Ext.drew ?_ | refine Ext.drewN ?_ _ | refine Ext.alloc ?_ _ | refine Ext.setCell ?_ (by first | assumption | (simp; done) | (simp; omega)) _ | refine Below.setCell ?_ (by first | assumption | (simp; done) | (simp; omega)) _ | refine Ext.trans ?_ (by assumption)))⟩; rw [hB.out]; try (first | (simp [*]; done) | (simp [*]; omega) | (cases o <;> simp [*] <;> omega)))

def chkE (d : Dev) : Int := if d.secs.n < 2 ∨ 8192 < d.secs.n ∨ d.secs.xs.any oddO = true then 9 else if d.waits.xs.any (badW d.secs.n) = true then 9 else 0
theorem call_odd : ∀ args w, (callFunc 84 args).run Tryz.prog w = .ok (.enter 84 args) w := callF Tryz.func84 (by kernel_rfl) rfl
theorem call_chk1 : ∀ args w, (callFunc 86 args).run Tryz.prog w = .ok (.enter 86 args) w := callF Tryz.func86 (by kernel_rfl) rfl
set_option maxHeartbeats 1000000 in
theorem chk_any (d : Dev) (w : World) (h : Dev.At w 0 w.heap.size d) : Calls Tryz.prog 39 #[.agg d.cells.toArray] w fun e w' => e = .returned (.int .i64 (chkE d)) ∧ Ext w w' := by
  have m1 : d.secs.n ≤ 9223372036854775807 := Nat.le_trans h.secs.le h.secs.cap
  have m2 : d.waits.n ≤ 9223372036854775807 := Nat.le_trans h.waits.le h.waits.cap
  have H1 := Lib.hid (fun w1 (e1 : Ext w w1) => cono_any w1 d.secs.A d.secs.n d.secs.c d.secs.xs h.secs.len m1 (Rd.at h.secs.rd e1 (Nat.le_refl _)) oddO (.func (.func 84) #[] #[]) 84 #[] rfl call_odd
    (fun x hx w2 _ => odd_any x w2 (Nat.le_trans (h.secs.all x hx).le (h.secs.all x hx).cap)))
  have H2 := Lib.hid (fun w1 b (e1 : Ext w w1) (hb : w1.cell? ⟨b, 0, none⟩ = some (.int .i64 d.secs.n)) => conw_any w1 d.waits.A d.waits.n d.waits.c d.waits.xs h.waits.len m2 (Rd.at h.waits.rd e1 (Nat.le_refl _)) (badW d.secs.n)
    (.func (.func 86) #[] #[.pointer (some ⟨b, 0, none⟩)]) 86 #[.pointer (some ⟨b, 0, none⟩)] rfl call_chk1
    (fun x hx w2 e2 => chk1_any x d.secs.n b w2 (h.waits.all x hx).p0 (h.waits.all x hx).p1 (Nat.le_trans (h.waits.all x hx).data.le (h.waits.all x hx).data.cap) ((Below.cell e2 (World.block_lt_of_cell? w1 _ hb)).trans hb)))
  have hv : Hid (chkE d = if d.secs.n < 2 ∨ 8192 < d.secs.n ∨ d.secs.xs.any oddO = true then 9 else if d.waits.xs.any (badW d.secs.n) = true then 9 else 0) := Lib.hid rfl
  clear h
  generalize chkE d = v at *
  generalize d.secs.xs.any oddO = b1 at *
  generalize d.waits.xs.any (badW d.secs.n) = b2 at *
  obtain ⟨⟨A, n, c, xs⟩, ⟨B, m, k, ys⟩⟩ := d
  simp only [Dev.cells, Sl.val] at *
  have hcase : n < 2 ∨ (2 ≤ n ∧ 8192 < n) ∨ (2 ≤ n ∧ n ≤ 8192) := by omega
  rcases hcase with q0 | ⟨q0, q1⟩ | ⟨q0, q1⟩
  · have hv2 := Lib.hid (show v = 9 by rw [hv.out, if_pos (.inl q0)])
    go_enter Tryz.func39, Tryz.ntmps39
    go_wp2_with fail
    go_ret
    exact ⟨retI hv2.out.symm, by (repeat (first | exact Below.refl _ _ | exact Ext.refl _ | assumption | refine Below.drew ?_ | refine below_drewN ?_ _ | refine below_alloc ?_ (by first | exact Nat.le_refl _ | assumption | (simp; done) | omega | (simp; omega)) _ | refine below_ext ?_ (by assumption) (by first | exact Nat.le_refl _ | assumption | (simp; done) | omega | (simp; omega)) | refine Ext.drew ?_ | refine Ext.drewN ?_ _ | refine Ext.alloc ?_ _ | refine Ext.setCell ?_ (by first | assumption | (simp; done) | (simp; omega)) _ | refine Below.setCell ?_ (by first | assumption | (simp; done) | (simp; omega)) _ | refine Ext.trans ?_ (by assumption)))⟩
  · have hv2 := Lib.hid (show v = 9 by rw [hv.out, if_pos (.inr (.inl q1))])
    go_enter Tryz.func39, Tryz.ntmps39
    go_wp2_with fail
    go_ret
    exact ⟨retI hv2.out.symm, by (repeat (first | exact Below.refl _ _ | exact Ext.refl _ | assumption | refine Below.drew ?_ | refine below_drewN ?_ _ | refine below_alloc ?_ (by first | exact Nat.le_refl _ | assumption | (simp; done) | omega | (simp; omega)) _ | refine below_ext ?_ (by assumption) (by first | exact Nat.le_refl _ | assumption | (simp; done) | omega | (simp; omega)) | refine Ext.drew ?_ | refine Ext.drewN ?_ _ | refine Ext.alloc ?_ _ | refine Ext.setCell ?_ (by first | assumption | (simp; done) | (simp; omega)) _ | refine Below.setCell ?_ (by first | assumption | (simp; done) | (simp; omega)) _ | refine Ext.trans ?_ (by assumption)))⟩
  · have hv2 := Lib.hid (show v = if b1 = true then 9 else if b2 = true then 9 else 0 by
      rw [hv.out]
      cases b1
      · rw [if_neg (by simp; omega)]; rfl
      · rw [if_pos (.inr (.inr rfl))]; rfl)
    go_enter Tryz.func39, Tryz.ntmps39
    go_wp2_with (first
      | (go_at_call 83; refine (H1.out _ (by (repeat (first | exact Below.refl _ _ | exact Ext.refl _ | assumption | refine Below.drew ?_ | refine below_drewN ?_ _ | refine below_alloc ?_ (by first | exact Nat.le_refl _ | assumption | (simp; done) | omega | (simp; omega)) _ | refine below_ext ?_ (by assumption) (by first | exact Nat.le_refl _ | assumption | (simp; done) | omega | (simp; omega)) | refine Ext.drew ?_ | refine Ext.drewN ?_ _ | refine Ext.alloc ?_ _ | refine Ext.setCell ?_ (by first | assumption | (simp; done) | (simp; omega)) _ | refine Below.setCell ?_ (by first | assumption | (simp; done) | (simp; omega)) _ | refine Ext.trans ?_ (by assumption))))).mono ?_; rintro e w2 ⟨rfl, e2⟩; obtain ⟨p1, p2⟩ := bcell e2; have z2 : w.heap.size + 1 < w2.heap.size := (by have := e2.size; simp at this; omega))
      | (go_at_call 85; refine (H2.out _ _ (by (repeat (first | exact Below.refl _ _ | exact Ext.refl _ | assumption | refine Below.drew ?_ | refine below_drewN ?_ _ | refine below_alloc ?_ (by first | exact Nat.le_refl _ | assumption | (simp; done) | omega | (simp; omega)) _ | refine below_ext ?_ (by assumption) (by first | exact Nat.le_refl _ | assumption | (simp; done) | omega | (simp; omega)) | refine Ext.drew ?_ | refine Ext.drewN ?_ _ | refine Ext.alloc ?_ _ | refine Ext.setCell ?_ (by first | assumption | (simp; done) | (simp; omega)) _ | refine Below.setCell ?_ (by first | assumption | (simp; done) | (simp; omega)) _ | refine Ext.trans ?_ (by assumption)))) (by go_simp)).mono ?_; rintro e w3 ⟨rfl, e3⟩))
    all_goals (go_ret; refine ⟨retI ?_, by (repeat (first | exact Below.refl _ _ | exact Ext.refl _ | assumption | refine Below.drew ?_ | refine below_drewN ?_ _ | refine below_alloc ?_ (by first | exact Nat.le_refl _ | assumption | (simp; done) | omega | (simp; omega)) _ | refine below_ext ?_ (by assumption) (by first | exact Nat.le_refl _ | assumption | (simp; done) | omega | (simp; omega)) | refine Ext.drew ?_ | refine Ext.drewN ?_ _ | refine Ext.alloc ?_ _ | refine Ext.setCell ?_ (by first | assumption | (simp; done) | (simp; omega)) _ | refine Below.setCell ?_ (by first | assumption | (simp; done) | (simp; omega)) _ | refine Ext.trans ?_ (by assumption)))⟩; rw [hv2.out]; (first | (simp [*]; done) | (exfalso; omega) | (cases b1 <;> cases b2 <;> (first | (simp_all; done) | (simp_all; omega)))))
end Go.Proofs.YtfongpdeflfioaaGreat
/- A store's data: objects, what reads; slices.ContainsFunc over numbers and objects; space.Check. -/
namespace Go.Proofs.YtfongpdeflfioaaGreat
open Go.RowKit Go.Maps Go.Sort Go.Shelf
set_option linter.unusedVariables false
set_option linter.unusedSimpArgs false

def intc (x : Int) : List Value := [.int .i64 x]
theorem ints_flat (l : List Int) : l.flatMap intc = ints l := by
  induction l with
  | nil => rfl
  | cons b l ih => rw [List.flatMap_cons, ih]; rfl
abbrev Loc := Sl Int
abbrev Loc.At (w : World) (lo hi : Nat) (s : Loc) : Prop := Sl.At w lo hi intc (fun y => (Lit.int .i64 y).wf = true) s
structure Ob where
  key : ByteArray
  data : Oct
  locs : Loc
def Ob.cells (x : Ob) : List Value := [.string x.key, x.data.val, x.locs.val]
structure Ob.At (w : World) (lo hi : Nat) (x : Ob) : Prop where
  key : x.key.size ≤ maxLen
  data : Oct.At w lo hi x.data
  locs : Loc.At w lo hi x.locs
structure Ub where
  txg : Int
  first : Int
  objs : Int
def Ub.cells (x : Ub) : List Value := [.int .i64 x.txg, .int .i64 x.first, .int .i64 x.objs]
structure Ub.wf (x : Ub) : Prop where
  t0 : -9223372036854775808 ≤ x.txg
  t1 : x.txg ≤ 9223372036854775807
  f0 : -9223372036854775808 ≤ x.first
  f1 : x.first ≤ 9223372036854775807
  o0 : -9223372036854775808 ≤ x.objs
  o1 : x.objs ≤ 9223372036854775807
structure Sto where
  dev : Dev
  ub : Ub
  objs : Sl Ob
  idx : Loc
def Sto.cells (x : Sto) : List Value := [x.dev.secs.val, x.dev.waits.val, .int .i64 x.ub.txg, .int .i64 x.ub.first, .int .i64 x.ub.objs, x.objs.val, x.idx.val]
structure Sto.At (w : World) (lo hi : Nat) (x : Sto) : Prop where
  dev : Dev.At w lo hi x.dev
  ub : x.ub.wf
  objs : Sl.At w lo hi Ob.cells (Ob.At w lo hi) x.objs
  idx : Loc.At w lo hi x.idx
section
variable {w w' : World} {lo hi lo' hi' : Nat}
theorem Loc.At.imp {s : Loc} (h : Loc.At w lo hi s) (hr : ∀ A cs, Rd w lo hi A cs → Rd w' lo' hi' A cs) : Loc.At w' lo' hi' s := Sl.At.imp h (hr _ _) (fun _ h => h)
theorem Ob.At.imp {s : Ob} (h : Ob.At w lo hi s) (hr : ∀ A cs, Rd w lo hi A cs → Rd w' lo' hi' A cs) : Ob.At w' lo' hi' s := ⟨h.key, Oct.At.imp h.data hr, Loc.At.imp h.locs hr⟩
theorem Sto.At.imp {s : Sto} (h : Sto.At w lo hi s) (hr : ∀ A cs, Rd w lo hi A cs → Rd w' lo' hi' A cs) : Sto.At w' lo' hi' s := ⟨h.dev.imp hr, h.ub, Sl.At.imp h.objs (hr _ _) (fun _ hx => Ob.At.imp hx hr), Loc.At.imp h.idx hr⟩
theorem Ob.At.on {s : Ob} (h : Ob.At w lo hi s) (e : Ext w w') (hh : hi ≤ w.heap.size) : Ob.At w' lo w'.heap.size s := h.imp (rd_on e hh)
theorem Sto.At.on {s : Sto} (h : Sto.At w lo hi s) (e : Ext w w') (hh : hi ≤ w.heap.size) : Sto.At w' lo w'.heap.size s := h.imp (rd_on e hh)
theorem Loc.At.on {s : Loc} (h : Loc.At w lo hi s) (e : Ext w w') (hh : hi ≤ w.heap.size) : Loc.At w' lo w'.heap.size s := h.imp (rd_on e hh)
theorem Loc.At.rdi {s : Loc} (h : Loc.At w lo hi s) : Rd w lo hi s.A (ints s.xs) := by rw [← ints_flat]; exact h.rd
end

set_option maxHeartbeats 400000 in
theorem idxi_any (w : World) (A : Option Addr) (n c : Nat) (xs : List Int) (hn : n = xs.length) (hm : n ≤ 9223372036854775807) (hr : Rd w 0 w.heap.size A (xs.flatMap intc)) (p : Int → Bool) (F : Value) (f : FuncId) (caps : Array Value) (hf : F = .func (.func f) #[] caps) (hcf : ∀ args w, (callFunc f args).run Tryz.prog w = .ok (.enter f args) w)
    (hF : ∀ x ∈ xs, ∀ w1, Ext w w1 → Calls Tryz.prog f (#[.int .i64 x] ++ caps) w1 fun e w' => e = .returned (.bool (p x)) ∧ Ext w1 w') :
    Calls Tryz.prog 126 #[.slice A n c, F] w fun e w' => ∃ r : Int, e = .returned (.int .i64 r) ∧ xs.any p = decide (0 ≤ r) ∧ -1 ≤ r ∧ Ext w w' := by
  subst hf
  have Hn := Lib.hid hn
  have HF := Lib.hid hF
  clear hn hF
  go_enter Tryz.func126, Tryz.ntmps126
  go_wp2_with fail
  go_loopw [8] (fun i wr => ∃ k : Nat, k ≤ n ∧ i = .int .i64 k ∧ Hid ((xs.take k).any p = false) ∧ Ext w wr) (fun i _ => n - (intOf i).toNat)
  case atStart => exact ⟨0, Nat.zero_le _, rfl, Lib.hid rfl, Ext.refl _⟩
  case round =>
    obtain ⟨k, hk, rfl, HK, e1⟩ := hrel
    by_cases hlt : k < n
    · have hl : k < xs.length := by rw [← Hn.out]; omega
      obtain ⟨b1, o1, rfl, _, hb1, G0⟩ := rd_flat (size := 1) (fun _ => rfl) (by omega) hr hl
      have HC := Lib.hid (HF.out xs[k] (List.getElem_mem _) wr e1)
      have hsnoc := Lib.hid (show (xs.take (k + 1)).any p = ((xs.take k).any p || p xs[k]) by rw [List.take_succ_eq_append_getElem hl, List.any_append]; simp)
      have hyes := Lib.hid (fun h : p xs[k] = true => List.any_eq_true.2 ⟨xs[k], List.getElem_mem _, h⟩)
      have G : ∀ j u, (intc xs[k])[j]? = some u → wr.cell? ⟨b1, o1 + k * 1 + j, none⟩ = some u := fun j u hu => by rw [Below.cell e1 hb1]; exact G0 j u hu
      generalize xs[k] = x at *
      have g0 := G 0 _ rfl
      simp only [Nat.add_zero, Nat.mul_one] at g0
      clear G G0
      go_wp2_with fail
      refine HC.out.mono ?_
      rintro e w2 ⟨rfl, e2⟩
      cases ho : p x
      · go_wp2_with fail
        go_roundw
        case rel =>
          exact ⟨k + 1, by omega, by go_num, Lib.hid (by rw [hsnoc.out, HK.out, ho]; rfl), by (repeat (first | exact Below.refl _ _ | exact Ext.refl _ | assumption | refine Below.drew ?_ | refine below_drewN ?_ _ | refine below_alloc ?_ (by first | exact Nat.le_refl _ | assumption | (simp; done) | omega | (simp; omega)) _ | refine below_ext ?_ (by assumption) (by first | exact Nat.le_refl _ | assumption | (simp; done) | omega | (simp; omega)) | refine Ext.drew ?_ | refine Ext.drewN ?_ _ | refine Ext.alloc ?_ _ | refine Ext.setCell ?_ (by first | assumption | (simp; done) | (simp; omega)) _ | refine Below.setCell ?_ (by first | assumption | (simp; done) | (simp; omega)) _ | refine Ext.trans ?_ (by assumption)))⟩
        case measure => simp [intOf]; omega
      · go_wp2_with fail
        go_ret
        refine ⟨k, rfl, ?_, by omega, by (repeat (first | exact Below.refl _ _ | exact Ext.refl _ | assumption | refine Below.drew ?_ | refine below_drewN ?_ _ | refine below_alloc ?_ (by first | exact Nat.le_refl _ | assumption | (simp; done) | omega | (simp; omega)) _ | refine below_ext ?_ (by assumption) (by first | exact Nat.le_refl _ | assumption | (simp; done) | omega | (simp; omega)) | refine Ext.drew ?_ | refine Ext.drewN ?_ _ | refine Ext.alloc ?_ _ | refine Ext.setCell ?_ (by first | assumption | (simp; done) | (simp; omega)) _ | refine Below.setCell ?_ (by first | assumption | (simp; done) | (simp; omega)) _ | refine Ext.trans ?_ (by assumption)))⟩
        rw [hyes.out ho]
        simp
    · go_wp2_with fail
      go_ret
      obtain rfl : k = n := by omega
      have h1 := HK.out
      rw [List.take_of_length_le (by rw [← Hn.out]; exact Nat.le_refl _)] at h1
      exact ⟨-1, rfl, by rw [h1]; rfl, by omega, e1⟩
theorem coni_any (w : World) (A : Option Addr) (n c : Nat) (xs : List Int) (hn : n = xs.length) (hm : n ≤ 9223372036854775807) (hr : Rd w 0 w.heap.size A (xs.flatMap intc)) (p : Int → Bool) (F : Value) (f : FuncId) (caps : Array Value) (hf : F = .func (.func f) #[] caps) (hcf : ∀ args w, (callFunc f args).run Tryz.prog w = .ok (.enter f args) w)
    (hF : ∀ x ∈ xs, ∀ w1, Ext w w1 → Calls Tryz.prog f (#[.int .i64 x] ++ caps) w1 fun e w' => e = .returned (.bool (p x)) ∧ Ext w1 w') :
    Calls Tryz.prog 88 #[.slice A n c, F] w fun e w' => e = .returned (.bool (xs.any p)) ∧ Ext w w' := by
  have H := Lib.hid (idxi_any w A n c xs hn hm hr p F f caps hf hcf hF)
  clear hn hF hr hm hf hcf
  go_enter Tryz.func88, Tryz.ntmps88
  go_wp2_with fail
  refine H.out.mono ?_
  rintro e w2 ⟨r, rfl, hany, hr1, e2⟩
  have HA := Lib.hid hany
  clear hany
  go_wp2_with fail
  go_ret
  exact ⟨by rw [HA.out]; rfl, e2⟩
set_option maxHeartbeats 400000 in
theorem idxb_any (w : World) (A : Option Addr) (n c : Nat) (xs : List Ob) (hn : n = xs.length) (hm : n ≤ 9223372036854775807) (hr : Rd w 0 w.heap.size A (xs.flatMap Ob.cells)) (p : Ob → Bool) (F : Value) (f : FuncId) (caps : Array Value) (hf : F = .func (.func f) #[] caps) (hcf : ∀ args w, (callFunc f args).run Tryz.prog w = .ok (.enter f args) w)
    (hF : ∀ x ∈ xs, ∀ w1, Ext w w1 → Calls Tryz.prog f (#[.agg x.cells.toArray] ++ caps) w1 fun e w' => e = .returned (.bool (p x)) ∧ Ext w1 w') :
    Calls Tryz.prog 87 #[.slice A n c, F] w fun e w' => ∃ r : Int, e = .returned (.int .i64 r) ∧ xs.any p = decide (0 ≤ r) ∧ -1 ≤ r ∧ Ext w w' := by
  subst hf
  have Hn := Lib.hid hn
  have HF := Lib.hid hF
  clear hn hF
  go_enter Tryz.func87, Tryz.ntmps87
  go_wp2_with fail
  go_loopw [8] (fun i wr => ∃ k : Nat, k ≤ n ∧ i = .int .i64 k ∧ Hid ((xs.take k).any p = false) ∧ Ext w wr) (fun i _ => n - (intOf i).toNat)
  case atStart => exact ⟨0, Nat.zero_le _, rfl, Lib.hid rfl, Ext.refl _⟩
  case round =>
    obtain ⟨k, hk, rfl, HK, e1⟩ := hrel
    by_cases hlt : k < n
    · have hl : k < xs.length := by rw [← Hn.out]; omega
      obtain ⟨b1, o1, rfl, _, hb1, G0⟩ := rd_flat (size := 3) (fun _ => rfl) (by omega) hr hl
      have HC := Lib.hid (HF.out xs[k] (List.getElem_mem _) wr e1)
      have hsnoc := Lib.hid (show (xs.take (k + 1)).any p = ((xs.take k).any p || p xs[k]) by rw [List.take_succ_eq_append_getElem hl, List.any_append]; simp)
      have hyes := Lib.hid (fun h : p xs[k] = true => List.any_eq_true.2 ⟨xs[k], List.getElem_mem _, h⟩)
      have G : ∀ j u, (Ob.cells xs[k])[j]? = some u → wr.cell? ⟨b1, o1 + k * 3 + j, none⟩ = some u := fun j u hu => by rw [Below.cell e1 hb1]; exact G0 j u hu
      generalize xs[k] = x at *
      have g0 := G 0 _ rfl; have g1 := G 1 _ rfl; have g2 := G 2 _ rfl
      simp only [Nat.add_zero, Nat.mul_one] at g0
      clear G G0
      go_wp2_with fail
      refine HC.out.mono ?_
      rintro e w2 ⟨rfl, e2⟩
      cases ho : p x
      · go_wp2_with fail
        go_roundw
        case rel =>
          exact ⟨k + 1, by omega, by go_num, Lib.hid (by rw [hsnoc.out, HK.out, ho]; rfl), by (repeat (first | exact Below.refl _ _ | exact Ext.refl _ | assumption | refine Below.drew ?_ | refine below_drewN ?_ _ | refine below_alloc ?_ (by first | exact Nat.le_refl _ | assumption | (simp; done) | omega | (simp; omega)) _ | refine below_ext ?_ (by assumption) (by first | exact Nat.le_refl _ | assumption | (simp; done) | omega | (simp; omega)) | refine Ext.drew ?_ | refine Ext.drewN ?_ _ | refine Ext.alloc ?_ _ | refine Ext.setCell ?_ (by first | assumption | (simp; done) | (simp; omega)) _ | refine Below.setCell ?_ (by first | assumption | (simp; done) | (simp; omega)) _ | refine Ext.trans ?_ (by assumption)))⟩
        case measure => simp [intOf]; omega
      · go_wp2_with fail
        go_ret
        refine ⟨k, rfl, ?_, by omega, by (repeat (first | exact Below.refl _ _ | exact Ext.refl _ | assumption | refine Below.drew ?_ | refine below_drewN ?_ _ | refine below_alloc ?_ (by first | exact Nat.le_refl _ | assumption | (simp; done) | omega | (simp; omega)) _ | refine below_ext ?_ (by assumption) (by first | exact Nat.le_refl _ | assumption | (simp; done) | omega | (simp; omega)) | refine Ext.drew ?_ | refine Ext.drewN ?_ _ | refine Ext.alloc ?_ _ | refine Ext.setCell ?_ (by first | assumption | (simp; done) | (simp; omega)) _ | refine Below.setCell ?_ (by first | assumption | (simp; done) | (simp; omega)) _ | refine Ext.trans ?_ (by assumption)))⟩
        rw [hyes.out ho]
        simp
    · go_wp2_with fail
      go_ret
      obtain rfl : k = n := by omega
      have h1 := HK.out
      rw [List.take_of_length_le (by rw [← Hn.out]; exact Nat.le_refl _)] at h1
      exact ⟨-1, rfl, by rw [h1]; rfl, by omega, e1⟩
theorem conb_any (w : World) (A : Option Addr) (n c : Nat) (xs : List Ob) (hn : n = xs.length) (hm : n ≤ 9223372036854775807) (hr : Rd w 0 w.heap.size A (xs.flatMap Ob.cells)) (p : Ob → Bool) (F : Value) (f : FuncId) (caps : Array Value) (hf : F = .func (.func f) #[] caps) (hcf : ∀ args w, (callFunc f args).run Tryz.prog w = .ok (.enter f args) w)
    (hF : ∀ x ∈ xs, ∀ w1, Ext w w1 → Calls Tryz.prog f (#[.agg x.cells.toArray] ++ caps) w1 fun e w' => e = .returned (.bool (p x)) ∧ Ext w1 w') :
    Calls Tryz.prog 42 #[.slice A n c, F] w fun e w' => e = .returned (.bool (xs.any p)) ∧ Ext w w' := by
  have H := Lib.hid (idxb_any w A n c xs hn hm hr p F f caps hf hcf hF)
  clear hn hF hr hm hf hcf
  go_enter Tryz.func42, Tryz.ntmps42
  go_wp2_with fail
  refine H.out.mono ?_
  rintro e w2 ⟨r, rfl, hany, hr1, e2⟩
  have HA := Lib.hid hany
  clear hany
  go_wp2_with fail
  go_ret
  exact ⟨by rw [HA.out]; rfl, e2⟩

/-- a sector that may not be -/
def badN (total : Int) (y : Int) : Bool := decide (y < 2) || decide (total ≤ y)
set_option maxRecDepth 100000 in
theorem spc1_any (w : World) (b : Nat) (total y : Int) (hb : w.cell? ⟨b, 0, none⟩ = some (.int .i64 total)) :
    Calls Tryz.prog 89 #[.int .i64 y, .pointer (some ⟨b, 0, none⟩)] w fun e w' => e = .returned (.bool (badN total y)) ∧ Ext w w' := by
  have hG := Lib.hid (show badN total y = (decide (y < 2) || decide (total ≤ y)) from rfl)
  generalize badN total y = v at *
  by_cases h1 : y < 2
  · go_enter Tryz.func89, Tryz.ntmps89
    go_wp2_with fail
    go_ret
    exact ⟨retB (by rw [hG.out]; simp [h1]), Ext.refl _⟩
  · by_cases h2 : total ≤ y
    · go_enter Tryz.func89, Tryz.ntmps89
      go_wp2_with fail
      go_ret
      exact ⟨retB (by rw [hG.out]; simp [h1, h2]), Ext.refl _⟩
    · go_enter Tryz.func89, Tryz.ntmps89
      go_wp2_with fail
      go_ret
      exact ⟨retB (by rw [hG.out]; simp [h1, h2]), Ext.refl _⟩
theorem call_spc1 : ∀ args w, (callFunc 89 args).run Tryz.prog w = .ok (.enter 89 args) w := callF Tryz.func89 (by kernel_rfl) rfl
/-- space.Check's answer -/
def spE (total : Int) (l : List Int) : Int := if total < 2 ∨ 8192 < total ∨ l.any (badN total) = true then 4 else if (uni l).length ≠ l.length then 6 else 0
set_option maxRecDepth 100000 in
set_option maxHeartbeats 4000000 in
theorem spcheck_any (w : World) (total : Int) (s : Loc) (h : Loc.At w 0 w.heap.size s) (hN : s.n ≤ 10000000) :
    Calls Tryz.prog 44 #[.int .i64 total, s.val] w fun e w' => e = .returned (.int .i64 (spE total s.xs)) ∧ Ext w w' := by
  have hT := h.len
  have HC := Lib.hid (fun W (hW : Ext w W) b (hb : W.cell? ⟨b, 0, none⟩ = some (.int .i64 total)) => coni_any W s.A s.n s.c s.xs h.len (by omega) (Rd.at h.rd hW (Nat.le_refl _)) (badN total) (.func (.func 89) #[] #[.pointer (some ⟨b, 0, none⟩)]) 89 #[.pointer (some ⟨b, 0, none⟩)] rfl call_spc1
    (fun x hx w2 e2 => spc1_any w2 b total x ((Below.cell e2 (World.block_lt_of_cell? W _ hb)).trans hb)))
  have HU := Lib.hid (fun W (hW : Ext w W) (b : Nat) (hb : Rd W 0 W.heap.size (some ⟨b, 0, none⟩) ([(⟨s.A, s.n, s.c, s.xs⟩ : SlI)].map SlI.val)) => union_any W (some ⟨b, 0, none⟩) 1 1 [⟨s.A, s.n, s.c, s.xs⟩] rfl (by decide) hb (by
    intro x hx
    obtain rfl := List.mem_singleton.1 hx
    exact ⟨h.len, Rd.at h.rdi hW (Nat.le_refl _), h.all⟩) (by simp [flatI]; omega))
  have HE := Lib.hid (show spE total s.xs = if total < 2 ∨ 8192 < total ∨ s.xs.any (badN total) = true then 4 else if (uni s.xs).length ≠ s.xs.length then 6 else 0 from rfl)
  have HL := Lib.hid h.len
  have hfl : flatI [(⟨s.A, s.n, s.c, s.xs⟩ : SlI)] = s.xs := by simp [flatI]
  rw [hfl] at HU
  clear h hfl hT
  generalize spE total s.xs = E at *
  obtain ⟨A, n, c, xs⟩ := s
  simp only [Sl.val] at *
  generalize hq : (xs.any (badN total)) = B at *
  have HUl := Lib.hid (Nat.le_trans (uni_len xs) (show xs.length ≤ 10000000 by rw [← HL.out]; exact hN))
  generalize uni xs = U at *
  rcases Int.lt_or_le total 2 with q0 | q0
  · have HV := Lib.hid (show E = 4 by rw [HE.out, if_pos (.inl q0)])
    go_enter Tryz.func44, Tryz.ntmps44
    go_upto_region 1 with fail
    generalize hw1 : World.alloc w _ = w1; obtain ⟨ew1, zw1, Gw1⟩ := box_cells hw1; have gw1_0 := Gw1 0 _ rfl; have Zw1 := Lib.hid zw1; clear zw1 hw1 Gw1; have rw1 := Ext.refl w1
    have q0' := gw1_0 w1 (Ext.refl _)
    go_wp2_with fail
    go_ret
    exact ⟨retI HV.out.symm, by (repeat (first | exact Below.refl _ _ | exact Ext.refl _ | assumption | refine Below.drew ?_ | refine below_drewN ?_ _ | refine below_alloc ?_ (by first | exact Nat.le_refl _ | assumption | (simp; done) | omega | (simp; omega)) _ | refine below_ext ?_ (by assumption) (by first | exact Nat.le_refl _ | assumption | (simp; done) | omega | (simp; omega)) | refine Ext.drew ?_ | refine Ext.drewN ?_ _ | refine Ext.alloc ?_ _ | refine Ext.setCell ?_ (by first | assumption | (simp; done) | (simp; omega)) _ | refine Below.setCell ?_ (by first | assumption | (simp; done) | (simp; omega)) _ | refine Ext.trans ?_ (by assumption)))⟩
  · rcases Int.lt_or_le 8192 total with q1 | q1
    · have HV := Lib.hid (show E = 4 by rw [HE.out, if_pos (.inr (.inl q1))])
      go_enter Tryz.func44, Tryz.ntmps44
      go_upto_region 1 with fail
      generalize hw1 : World.alloc w _ = w1; obtain ⟨ew1, zw1, Gw1⟩ := box_cells hw1; have gw1_0 := Gw1 0 _ rfl; have Zw1 := Lib.hid zw1; clear zw1 hw1 Gw1; have rw1 := Ext.refl w1
      have q0' := gw1_0 w1 (Ext.refl _)
      go_wp2_with fail
      go_ret
      exact ⟨retI HV.out.symm, by (repeat (first | exact Below.refl _ _ | exact Ext.refl _ | assumption | refine Below.drew ?_ | refine below_drewN ?_ _ | refine below_alloc ?_ (by first | exact Nat.le_refl _ | assumption | (simp; done) | omega | (simp; omega)) _ | refine below_ext ?_ (by assumption) (by first | exact Nat.le_refl _ | assumption | (simp; done) | omega | (simp; omega)) | refine Ext.drew ?_ | refine Ext.drewN ?_ _ | refine Ext.alloc ?_ _ | refine Ext.setCell ?_ (by first | assumption | (simp; done) | (simp; omega)) _ | refine Below.setCell ?_ (by first | assumption | (simp; done) | (simp; omega)) _ | refine Ext.trans ?_ (by assumption)))⟩
    · go_enter Tryz.func44, Tryz.ntmps44
      go_upto_region 1 with fail
      generalize hw1 : World.alloc w _ = w1; obtain ⟨ew1, zw1, Gw1⟩ := box_cells hw1; have gw1_0 := Gw1 0 _ rfl; have Zw1 := Lib.hid zw1; clear zw1 hw1 Gw1; have rw1 := Ext.refl w1
      have q0' := gw1_0 w1 (Ext.refl _)
      have HC1 := Lib.hid (HC.out w1 ew1 _ q0')
      clear HC gw1_0 Zw1
      cases B
      · go_wp2_with (go_at_call 88; refine HC1.out.mono ?_; rintro e w2 ⟨rfl, e2⟩)
        generalize hw3 : World.alloc w2 _ = w3; obtain ⟨ew3, zw3, Gw3⟩ := box_cells hw3; have gw3_0 := Gw3 0 _ rfl; have Zw3 := Lib.hid zw3; clear zw3 hw3 Gw3; have rw3 := Ext.refl w3
        have HB := Lib.hid (show Rd w3 0 w3.heap.size (some ⟨w2.heap.size, 0, none⟩) ([(⟨A, n, c, xs⟩ : SlI)].map SlI.val) from fun _ => ⟨w2.heap.size, 0, rfl, Nat.zero_le _, by rw [Zw3.out]; omega, fun j u hu => by
          obtain ⟨hj, rfl⟩ := List.getElem?_eq_some_iff.1 hu
          obtain rfl : j = 0 := by simpa using hj
          exact gw3_0 w3 (Ext.refl _)⟩)
        have E3 : Ext w w3 := (ew1.trans e2).trans ew3
        clear rw1 rw3 ew1 e2 ew3 gw3_0 Zw3
        refine (HU.out w3 E3 _ HB.out).mono ?_
        rintro e w4 ⟨v, rfl, hr4, e4⟩
        obtain ⟨A4, c4, rfl, _, _, _⟩ := own_form hr4
        clear hr4 HB HU
        have HV := Lib.hid (show E = if U.length ≠ xs.length then 6 else 0 by rw [HE.out, if_neg (by simp; omega)])
        rw [← HL.out] at HV
        by_cases hu : U.length = n
        · have HV2 := Lib.hid (show E = 0 by rw [HV.out, if_neg (by omega)])
          have hu2 : (U.length : Int) = (n : Int) := by omega
          clear hu
          go_wp2_with fail
          go_ret
          exact ⟨retI HV2.out.symm, by exact E3.trans e4⟩
        · have HV2 := Lib.hid (show E = 6 by rw [HV.out, if_pos hu])
          have hu2 : ¬ (U.length : Int) = (n : Int) := by omega
          clear hu
          go_wp2_with fail
          go_ret
          exact ⟨retI HV2.out.symm, by exact E3.trans e4⟩
      · have HV := Lib.hid (show E = 4 by rw [HE.out, if_pos (.inr (.inr rfl))])
        go_wp2_with (go_at_call 88; refine HC1.out.mono ?_; rintro e w2 ⟨rfl, e2⟩)
        go_ret
        exact ⟨retI HV.out.symm, by exact ew1.trans e2⟩
end Go.Proofs.YtfongpdeflfioaaGreat
