/- The texts Hpk, Bgh, Slu, Row, RowArg, Opens, Dat, Put in one file. -/
import Derived.Test.YtckaneapjpiocaaGreatDoorM2
import Derived.Test.YtckaneapjpiocaaGreatDoorM1
import Derived.ProofKit
import Derived.OpenShut
import Derived.JoinedCond
import Derived.SizedLaws
import Derived.Deep.Slices
import Derived.Deep.Fields
import Derived.ChangeSame
import Derived.Lib.SmallJoins
import Derived.Deep.CondSized
import Derived.SliceStrings
import Derived.IntWalk
import Derived.Deep.DeepCutAuto
import Derived.RangeFuncNested
import Derived.RangeFuncBound
import Derived.RangeFuncCalls
import Derived.RangeFuncLeaves
import Derived.Shelf.Abstract
import Derived.Shelf.RegionOpen
import Derived.OwnWalkIn
import Derived.TacticsInMore
import Derived.LoopNIn
import Derived.LoopIn
namespace Go.Proofs.YtckaneapjpiocaaGreatDoor
open Go.RowKit
set_option linter.unusedVariables false
set_option linter.unusedSimpArgs false
theorem Heap.sub' {w0 w : World} {its its' : List It} (H : Heap w0 its w) (f : Nat → Nat) (hf : ∀ i j, f i = f j → i = j) (h : ∀ i x, its'[i]? = some x → its[f i]? = some x) : Heap w0 its' w :=
  ⟨H.ext, fun i x hx => H.all (f i) x (h i x hx), fun i j x y k hij hx hy => H.apart (f i) (f j) x y k (fun e => hij (hf i j e)) (h i x hx) (h j y hy)⟩
theorem Heap.pick {w0 w : World} {its its' : List It} (H : Heap w0 its w) (p : List Nat) (hp : p.Nodup) (hv : p.all (fun i => decide (i < its.length)) = true) (h : its' = p.filterMap fun i => its[i]?) : Heap w0 its' w := by
  have hv' : ∀ i ∈ p, i < its.length := fun i hi => by simpa using List.all_eq_true.1 hv i hi
  have hl : ∀ (p : List Nat), (∀ i ∈ p, i < its.length) → ∀ i : Nat, (p.filterMap fun i => its[i]?)[i]? = p[i]?.bind fun j => its[j]? := by
    intro p
    induction p with
    | nil => intro _ i; simp
    | cons a p ih =>
      intro hq i
      have ha := hq a (List.mem_cons_self ..)
      rw [List.filterMap_cons, List.getElem?_eq_getElem ha]
      cases i with
      | zero => simp [List.getElem?_eq_getElem ha]
      | succ i => simpa using ih (fun j hj => hq j (List.mem_cons_of_mem _ hj)) i
  subst h
  refine H.sub' (fun i => match p[i]? with | some j => j | none => its.length + i) (fun i j e => ?_) fun i x hx => ?_
  · (try dsimp only at e)
    cases hi : p[i]? with
    | none =>
      cases hj : p[j]? with
      | none => rw [hi, hj] at e; dsimp only at e; omega
      | some b => rw [hi, hj] at e; dsimp only at e; have := hv' b (List.mem_of_getElem? hj); omega
    | some a =>
      cases hj : p[j]? with
      | none => rw [hi, hj] at e; dsimp only at e; have := hv' a (List.mem_of_getElem? hi); omega
      | some b =>
        rw [hi, hj] at e
        dsimp only at e
        subst e
        obtain ⟨h1, h2⟩ := List.getElem?_eq_some_iff.1 hi
        obtain ⟨h3, h4⟩ := List.getElem?_eq_some_iff.1 hj
        rcases Nat.lt_trichotomy i j with h5 | h5 | h5
        · exact absurd (h2.trans h4.symm) (List.pairwise_iff_getElem.1 hp i j h1 h3 h5)
        · exact h5
        · exact absurd (h4.trans h2.symm) (List.pairwise_iff_getElem.1 hp j i h3 h1 h5)
  · rw [hl p hv'] at hx
    cases hi : p[i]? with
    | none => rw [hi] at hx; cases hx
    | some a => rw [hi] at hx; exact hx
theorem Heap.mid {w0 w : World} {x : It} {a b : List It} (H : Heap w0 (x :: (a ++ b)) w) : Heap w0 (a ++ x :: b) w := by
  refine H.sub' (fun i => if i < a.length then i + 1 else if i = a.length then 0 else i) (fun i j e => ?_) fun i y hy => ?_
  · split at e <;> split at e <;> (try split at e) <;> (try split at e) <;> omega
  · by_cases h1 : i < a.length
    · rw [if_pos h1, List.getElem?_cons_succ, List.getElem?_append_left h1]
      rwa [List.getElem?_append_left h1] at hy
    · rw [if_neg h1]
      by_cases h2 : i = a.length
      · subst h2
        rw [if_pos rfl]
        rw [List.getElem?_append_right (Nat.le_refl _), Nat.sub_self] at hy
        simpa using hy
      · rw [if_neg h2]
        rw [List.getElem?_append_right (by omega)] at hy
        obtain ⟨k, hk⟩ : ∃ k, i = a.length + 1 + k := ⟨i - a.length - 1, by omega⟩
        subst hk
        rw [show a.length + 1 + k - a.length = k + 1 by omega, List.getElem?_cons_succ] at hy
        rw [show a.length + 1 + k = (a.length + k) + 1 by omega, List.getElem?_cons_succ, List.getElem?_append_right (by omega), show a.length + k - a.length = k by omega]
        exact hy
theorem Heap.back {w0 w : World} {x : It} {a : List It} (H : Heap w0 (x :: a) w) : Heap w0 (a ++ [x]) w := Heap.mid (b := []) (by simpa using H)
theorem It.lower {x : It} {base base' : Nat} {w : World} (h : x.holds base w) (hb : base' ≤ base) : x.holds base' w := by
  cases x with
  | box b vs => exact ⟨Nat.le_trans hb h.1, h.2⟩
  | row e size v n xs => exact own_lower h hb
  | rd A cs =>
    intro hn
    obtain ⟨b, o, he, h1, h2, h3⟩ := h hn
    exact ⟨b, o, he, h1, Nat.le_trans hb h2, h3⟩
  | any S p lt keep => exact ⟨fun k hk => Nat.le_trans hb (h.1 k hk), h.2⟩
theorem It.at_ge {x : It} {base k : Nat} {w : World} (h : x.holds base w) (ha : x.at' k) : base ≤ k := by
  cases x with
  | box b vs => cases ha; exact h.1
  | row e size v n xs => exact (World.ownsRow.lt h k ha).1
  | rd A cs =>
    obtain ⟨hn, a, rfl, rfl⟩ := ha
    obtain ⟨b, o, he, h1, h2, h3⟩ := h hn
    cases he
    exact h2
  | any S p lt keep => exact h.1 k ha
theorem Heap.joinR {w0 w w' : World} {its its2 : List It} (H : Heap w0 its w) (H2 : Heap w its2 w') : Heap w0 (its ++ its2) w' := by
  have hl := H.later H2.ext
  refine ⟨hl.ext, fun i x hx => ?_, fun i j x y k hij hx hy ho ha => ?_⟩
  · by_cases h1 : i < its.length
    · rw [List.getElem?_append_left h1] at hx
      exact hl.all _ x hx
    · rw [List.getElem?_append_right (by omega)] at hx
      exact It.lower (H2.all _ x hx) H.ext.size
  · by_cases h1 : i < its.length
    · rw [List.getElem?_append_left h1] at hx
      by_cases h2 : j < its.length
      · rw [List.getElem?_append_left h2] at hy
        exact H.apart i j x y k hij hx hy ho ha
      · rw [List.getElem?_append_right (by omega)] at hy
        have a1 := It.at_ge (H2.all _ y hy) ha
        have a2 := It.at_lt (H.all _ x hx) (It.own_at ho)
        omega
    · rw [List.getElem?_append_right (by omega)] at hx
      by_cases h2 : j < its.length
      · rw [List.getElem?_append_left h2] at hy
        have a1 := It.at_ge (H2.all _ x hx) (It.own_at ho)
        have a2 := It.at_lt (H.all _ y hy) ha
        omega
      · rw [List.getElem?_append_right (by omega)] at hy
        exact H2.apart _ _ x y k (fun e => hij (by omega)) hx hy ho ha
open Go.RowKit
set_option linter.unusedVariables false
set_option linter.unusedSimpArgs false
abbrev RdL := List (Option Addr × List Value)
def It.bag (S : Nat → Prop) (L : RdL) : It :=
  .any S (fun w => (∀ k, S k → k < w.heap.size) ∧ ∀ q ∈ L, RdK w S q.1 q.2) (fun w k h hk => h.1 k hk) (fun w w' hs hk h => ⟨fun k h1 => Nat.lt_of_lt_of_le (h.1 k h1) hs, fun q hq hn => by
    obtain ⟨b, o, e, h1, h2, h3⟩ := h.2 q hq hn
    exact ⟨b, o, e, Nat.lt_of_lt_of_le h1 hs, h2, fun j u hu => (World.cell?_of_block (w := w) (a := ⟨b, o + j, none⟩) (hk b h2)).trans (h3 j u hu)⟩⟩)
section
variable {w0 w w' : World} {its : List It} {j : Nat} {S : Nat → Prop} {L L2 : RdL}
theorem Heap.bag0 (H : Heap w0 its w) : Heap w0 (It.bag (fun _ => False) [] :: its) w :=
  H.add (Ext.refl w) ⟨fun k hk => hk.elim, fun k hk => hk.elim, fun q hq => by cases hq⟩ (fun k hk => hk.elim)
theorem Heap.bagExt (H : Heap w0 its w) (hj : its[j]? = some (It.bag S L)) (e : Ext w w') (h : ∀ q ∈ L2, Rd w' w.heap.size w'.heap.size q.1 q.2) : ∃ S', Heap w0 (its.set j (It.bag S' (L2 ++ L))) w' := by
  have hb := H.all j _ hj
  refine ⟨fun k => S k ∨ (w.heap.size ≤ k ∧ k < w'.heap.size), H.upd hj (Keep.of_ext e) ⟨fun k hk => ?_, fun k hk => ?_, fun q hq => ?_⟩ (fun k hk => ?_) (fun k hk => ?_) (fun k hk => hb.1 k hk)⟩
  · rcases hk with hk | hk
    · exact hb.1 k hk
    · exact Nat.le_trans H.ext.size hk.1
  · rcases hk with hk | hk
    · exact Nat.lt_of_lt_of_le (hb.2.1 k hk) e.size
    · exact hk.2
  · rcases List.mem_append.1 hq with hq | hq
    · intro hn
      obtain ⟨b, o, ha, h1, h2, h3⟩ := h q hq hn
      exact ⟨b, o, ha, h2, .inr ⟨h1, h2⟩, h3⟩
    · intro hn
      obtain ⟨b, o, ha, h1, h2, h3⟩ := hb.2.2 q hq hn
      exact ⟨b, o, ha, Nat.lt_of_lt_of_le h1 e.size, .inl h2, fun j u hu => (Below.cell (p := ⟨b, o + j, none⟩) e h1).trans (h3 j u hu)⟩
  · rcases hk with hk | hk
    · exact .inl hk
    · exact .inr hk.1
  · rcases hk with hk | hk
    · exact .inl hk
    · exact .inr hk.1
theorem Heap.bagMore (H : Heap w0 its w) (hj : its[j]? = some (It.bag S L)) (h : ∀ q ∈ L2, ∀ ok, (∀ q ∈ L, RdK w ok q.1 q.2) → RdK w ok q.1 q.2) : Heap w0 (its.set j (It.bag S (L2 ++ L))) w := by
  have hb := H.all j _ hj
  exact H.upd hj (Keep.refl _ _) ⟨hb.1, hb.2.1, fun q hq => by
    rcases List.mem_append.1 hq with hq | hq
    · exact h q hq S hb.2.2
    · exact hb.2.2 q hq⟩ (fun k hk => .inl hk) (fun k hk => .inl hk) (fun k hk => hb.1 k hk)
theorem Heap.bagRd (H : Heap w0 its w) (hj : its[j]? = some (It.bag S L)) {A : Option Addr} {cs : List Value} (hq : (A, cs) ∈ L) : Rd w w0.heap.size w.heap.size A cs := by
  have hb := H.all j _ hj
  intro hn
  obtain ⟨b, o, ha, h1, h2, h3⟩ := hb.2.2 _ hq hn
  exact ⟨b, o, ha, hb.1 b h2, h1, h3⟩
end
open Go.RowKit
set_option linter.unusedVariables false
set_option linter.unusedSimpArgs false
theorem RdK.drop {w : World} {ok : Nat → Prop} {A : Option Addr} {cs : List Value} (h : RdK w ok A cs) (k : Nat) : RdK w ok (A.map (·.add k)) (cs.drop k) := fun hn => by
  obtain ⟨b, o, e, h1, h2, h3⟩ := h (fun e => hn (by rw [e, List.drop_nil]))
  refine ⟨b, o + k, by rw [e]; simp [add_lit], h1, h2, fun j u hu => ?_⟩
  rw [List.getElem?_drop] at hu
  rw [Nat.add_assoc]
  exact h3 _ u hu
theorem RdK.from_ {w : World} {ok : Nat → Prop} {n c k : Nat} {A : Option Addr} {cs : List Value} (h : RdK w ok A cs) (hl : cs.length = n) (hk : k ≤ n) (hc : n ≤ c) : RdK w ok (shiftA A c k 1) (cs.drop k) := by
  unfold shiftA
  by_cases e : c = k
  · rw [List.drop_eq_nil_of_le (by omega)]
    exact RdK.nil
  · rw [if_neg e, Nat.mul_one]
    exact h.drop _
theorem run_sl_upto {P : Program} (w : World) (t e : TypeId) (inf : TypeInfo) (ht : P.underlying t = some (.slice e)) (hi : P.info? e = some inf) (hs : inf.size = 1) (A : Option Addr) (n c m : Nat) (M : Int) (hM : M = (m : Int)) (hm : m ≤ c) :
    (Instr.slice t (.slice A n c) none (some (.int .i64 M)) none).run P w = .ok (.slice A m c) w := by
  subst hM
  have hb : (Instr.sliceBounds true n c none (some (.int .i64 (m : Int))) none).run P w = .ok (0, m, c) w := by
    simp [Instr.sliceBounds, run_sliceBound (P := P) w .i64 (m : Int) c .sliceAcap (by omega) (by omega)]
  cases A with
  | none => simp [Instr.slice, run_underlying ht, hb, sizeOf, typeInfo, hi, hs]
  | some a => simp [Instr.slice, run_underlying ht, hb, sizeOf, typeInfo, hi, hs, Addr.add]
abbrev errV (q : Int) : Value := .iface 29 (.int .i64 q)
abbrev panE (q : Int) : Ending := .panicked [{ v := errV q, recovered := false }]
theorem Heap.rowBag {w0 w : World} {its : List It} {e : TypeId} {size n c j : Nat} {A : Option Addr} {xs : List Value} {S : Nat → Prop} {L : RdL} (H : Heap w0 (.row e size (.slice A n c) n xs :: its) w) (hj : its[j]? = some (It.bag S L)) :
    ∃ S', Heap w0 (its.set j (It.bag S' ((A, xs) :: L))) w := by
  have hT := H.tail
  have hb := hT.all j _ hj
  have hr := H.rowAt 0 rfl
  have hR : Rd w w0.heap.size w.heap.size A xs := Rd.of_own hr
  obtain ⟨hjl, hje⟩ := List.getElem?_eq_some_iff.1 hj
  have hown : ∀ k, (Value.slice A n c).ownBlock = some k → w0.heap.size ≤ k ∧ k < w.heap.size := fun k hk => World.ownsRow.lt hr k hk
  refine ⟨fun k => S k ∨ (Value.slice A n c).ownBlock = some k, H.ext, fun i x hx => ?_, fun i i' x y k hii hx hy hk hat => ?_⟩
  · by_cases hi : i = j
    · subst hi
      rw [List.getElem?_set_self hjl] at hx
      cases hx
      refine ⟨fun k hk => ?_, fun k hk => ?_, fun q hq => ?_⟩
      · rcases hk with hk | hk
        · exact hb.1 k hk
        · exact (hown k hk).1
      · rcases hk with hk | hk
        · exact hb.2.1 k hk
        · exact (hown k hk).2
      · rcases List.mem_cons.1 hq with rfl | hq
        · intro hn
          obtain ⟨b, o, ha, h1, h2, h3⟩ := hR hn
          exact ⟨b, o, ha, h2, .inr (by rw [show A = some ⟨b, o, none⟩ from ha]; rfl), h3⟩
        · intro hn
          obtain ⟨b, o, ha, h1, h2, h3⟩ := hb.2.2 q hq hn
          exact ⟨b, o, ha, h1, .inl h2, h3⟩
    · rw [List.getElem?_set_ne (Ne.symm hi)] at hx
      exact hT.all i x hx
  · by_cases hi : i = j
    · subst hi
      rw [List.getElem?_set_self hjl] at hx
      cases hx
      rw [List.getElem?_set_ne hii] at hy
      rcases hk with hk | hk
      · exact hT.apart i i' _ y k hii hj hy hk hat
      · exact H.apart 0 (i' + 1) _ y k (by omega) rfl hy hk hat
    · rw [List.getElem?_set_ne (Ne.symm hi)] at hx
      by_cases hi' : i' = j
      · subst hi'
        rw [List.getElem?_set_self hjl] at hy
        cases hy
        rcases hat with hat | hat
        · exact hT.apart i i' x _ k hii hx hj hk hat
        · exact H.apart (i + 1) 0 x _ k (by omega) hx rfl hk hat
      · rw [List.getElem?_set_ne (Ne.symm hi')] at hy
        exact hT.apart i i' x y k hii hx hy hk hat
open Go.RowKit Go.ChangeShapes Go.WideShapes Go.Deep Go.Joins
section
variable {H : Type} {enc : TypeId × Value → H} {P : Program}
theorem trodAll_stays (hl : laidOutB P = true) {W W' : World} (hb : Ext W W') {sp : Nat → Bool} : ∀ (ts : List TypeId) (vs : List Value) (ds : List (DataW H)) (ps : List MemPlace),
    (∀ t ∈ ts, P.readableRec t = true ∧ t < P.types.size) → DataW.TrodAll enc P W 0 (fun _ => true) true ts vs ds ps → (∀ x ∈ ps, x.block < W.heap.size) → (∀ x ∈ ps, sp x.block = true) →
    DataW.TrodAll enc P W' 0 sp true ts vs ds ps
  | [], [], [], _, _, h, _, _ => h
  | t :: ts, v :: vs, d :: ds, _, hts, h, hlt, hsp => by
    obtain ⟨p, q, h1, h2, rfl⟩ := h
    have ht := hts t (by simp)
    refine ⟨p, q, WideElems.Trod_stays hl ht.1 ht.2 h1 (fun x hx => Below.same hb (hlt x (by simp [hx]))) (fun x hx => hsp x (by simp [hx])),
      trodAll_stays hl hb ts vs ds q (fun t' h' => hts t' (by simp [h'])) h2 (fun x hx => hlt x (by simp [hx])) (fun x hx => hsp x (by simp [hx])), rfl⟩
  | [], [], _ :: _, _, _, h, _, _ => h.elim
  | [], _ :: _, _, _, _, h, _, _ => h.elim
  | _ :: _, [], _, _, _, h, _, _ => h.elim
  | _ :: _, _ :: _, [], _, _, h, _, _ => h.elim
theorem law_post {f : Func} {s : ChangeSpec} {W W' : World} {args : Array Value} {ds gs : List (DataW H)} {before : List MemPlace} {tb : TypeId} (hv : s.vars = [])
    (hW : DataW.Whole enc P f.params.toList s.vars false W args.toList ds gs before) (hl : laidOutB P = true) (hts : f.params.toList.all (fun t => P.readableRec t && decide (t < P.types.size)) = true)
    (hr : (s.fn H (ds ++ gs)).results = [.lit (.bool true)]) (ha : (s.fn H (ds ++ gs)).args = ds) (hvs : (s.fn H (ds ++ gs)).vars = []) (ht : f.resultTypes = #[tb]) (hu : P.underlying tb = some .bool) (hb : Ext W W') :
    s.post enc P f false true false false W args (.bool true) W' := by
  have hlt : ∀ p ∈ before, p.block < W.heap.size := fun p hp => hW.lt p hp
  obtain ⟨p, q, hA, hV, rfl, hz, hn⟩ := id hW
  rw [hv] at hV
  obtain ⟨_, rfl⟩ := trodVars_none hV
  simp only [List.append_nil] at hlt
  have hts' : ∀ t ∈ f.params.toList, P.readableRec t = true ∧ t < P.types.size := fun t h => by
    have := List.all_eq_true.1 hts t h
    simpa using this
  refine ⟨ds, gs, p ++ [], [], p, [], hW, ?_, ?_, ?_, ?_, fun h => by cases h⟩
  · rw [hr, ht]
    exact trodAll_mk1 (shut_bool hu true)
  · rw [ha]
    exact trodAll_stays hl hb _ _ _ _ hts' hA hlt (fun x hx => by simpa using hlt x hx)
  · rw [hvs, hv]
    rfl
  · exact World.keptBut_mono (fun x hx => ⟨by simpa using hx, Or.inr (Or.inl hx)⟩) (Below.frame hb (· ∈ p))
end
section
variable {H : Type} {enc : TypeId × Value → H} {P : Program} {w : World} {base : Nat} {spare : Nat → Bool} {held : Bool}
theorem addr_plain {w : World} {a : Addr} {n : Nat} {v : Value} (h : w.cell? (a.add n) = some v) (h0 : ∃ u, w.cell? a = some u) : a = ⟨a.block, a.off, none⟩ := by
  obtain ⟨u, hu⟩ := h0
  obtain ⟨b, o, s⟩ := a
  unfold World.cell? at hu
  cases s with
  | none => rfl
  | some s =>
    simp at hu
    split at hu <;> simp at hu
theorem block_lt_of_cell {w : World} {a : Addr} {v : Value} (h : w.cell? a = some v) : a.block < w.heap.size := World.block_lt_of_cell? w a h
end
open Go.RowKit Go.ChangeShapes Go.WideShapes Go.Deep Go.Joins
section
variable {H : Type} {enc : TypeId × Value → H} {P : Program} {w : World} {spare : Nat → Bool} {held : Bool}
theorem plain_of_cells {w : World} {a : Addr} {cs : List Value} (h : ∀ i u, cs[i]? = some u → w.cell? (a.add i) = some u) : Rd w 0 w.heap.size (some a) cs := fun hn => by
  have hl : 0 < cs.length := by
    rcases Nat.eq_zero_or_pos cs.length with h0 | h0
    · exact absurd (List.eq_nil_of_length_eq_zero h0) hn
    · exact h0
  have h0 := h 0 _ (List.getElem?_eq_getElem hl)
  have h0' : w.cell? a = some (cs[0]'hl) := by simpa [Addr.add] using h0
  have ha := addr_plain h0 ⟨_, h0'⟩
  refine ⟨a.block, a.off, by rw [← ha], Nat.zero_le _, block_lt_of_cell h0', fun j u hj => ?_⟩
  have := h j u hj
  rw [ha, add_lit] at this
  exact this
end
open Go.RowKit Go.ChangeShapes Go.WideShapes Go.Deep Go.Joins
structure Sl (α : Type) where
  A : Option Addr
  n : Nat
  c : Nat
  xs : List α
def Sl.val {α : Type} (s : Sl α) : Value := .slice s.A s.n s.c
structure Sl.In {α : Type} (P : Program) (w : World) (e : TypeId) (cells : α → List Value) (I : α → Prop) (s : Sl α) : Prop where
  len : s.n = s.xs.length
  le : s.n ≤ s.c
  cap : s.c ≤ maxLen
  bytes : s.n * P.bytesOf e ≤ reachBytes
  rd : Rd w 0 w.heap.size s.A (s.xs.flatMap cells)
  all : ∀ x ∈ s.xs, I x
section
variable {H : Type} {enc : TypeId × Value → H} {P : Program} {w : World} {t e : TypeId} {α β : Type}
def Opens (enc : TypeId × Value → H) (P : Program) (w : World) (t : TypeId) (cells : α → List Value) (I : α → Prop) : Prop :=
  ∀ (spare : Nat → Bool) (held : Bool) (fuel : Nat) (cs : List Value) (x : DataW H × List MemPlace), DataW.trod enc P w 0 spare held fuel t cs = some x → (∀ n ∈ x.1.weights P t, n ≤ reachBytes) → ∃ a, cs = cells a ∧ I a
theorem opens_int {k : IntKind} (ht : P.underlying t = some (.int k)) : Opens enc P w t (fun z : Int => [.int k z]) (fun z => k.min ≤ z ∧ z ≤ k.max) := fun _ _ _ _ _ h _ => by
  obtain ⟨n, rfl, _, hw⟩ := DataW.trod_int ht h
  simp only [Lit.wf, Bool.and_eq_true, decide_eq_true_eq] at hw
  exact ⟨n, rfl, hw⟩
theorem opens_bool (ht : P.underlying t = some .bool) : Opens enc P w t (fun z : Bool => [.bool z]) (fun _ => True) := fun _ _ _ _ _ h _ => by
  obtain ⟨n, rfl, _⟩ := DataW.trod_bool ht h
  exact ⟨n, rfl, trivial⟩
theorem opens_str (ht : P.underlying t = some .string) : Opens enc P w t (fun s : ByteArray => [.string s]) (fun s => s.size ≤ reachBytes) := fun _ _ _ _ _ h hw => by
  obtain ⟨s, rfl, rfl, _⟩ := DataW.trod_string ht h
  refine ⟨s, rfl, ?_⟩
  have := hw s.data.toList.length (by simp [DataW.weights])
  rw [Array.length_toList] at this
  exact this
theorem Opens.map {cells : α → List Value} {I : α → Prop} {cells' : β → List Value} {I' : β → Prop} (h : Opens enc P w t cells I) (f : α → β) (hc : ∀ a, I a → cells a = cells' (f a)) (hi : ∀ a, I a → I' (f a)) : Opens enc P w t cells' I' := fun _ _ _ _ _ h1 h2 => by
  obtain ⟨a, rfl, ha⟩ := h _ _ _ _ _ h1 h2
  exact ⟨f a, hc a ha, hi a ha⟩
theorem flat_get {cells : α → List Value} {size : Nat} (hs : ∀ a, (cells a).length = size) (xs : List α) (k j : Nat) (hj : j < size) (hk : k < xs.length) : (xs.flatMap cells)[k * size + j]? = (cells xs[k])[j]? := by
  induction xs generalizing k with
  | nil => simp at hk
  | cons x xs ih =>
    rw [List.flatMap_cons]
    cases k with
    | zero => rw [List.getElem?_append_left (by rw [hs]; omega)]; simp
    | succ k =>
      rw [List.getElem?_append_right (by rw [hs, Nat.succ_mul]; omega), hs, show (k + 1) * size + j - size = k * size + j by rw [Nat.succ_mul]; omega, ih k (by simpa using hk)]
      simp
theorem flat_length {cells : α → List Value} {size : Nat} (hs : ∀ a, (cells a).length = size) (xs : List α) : (xs.flatMap cells).length = xs.length * size := by
  induction xs with
  | nil => simp
  | cons x xs ih => rw [List.flatMap_cons, List.length_append, ih, hs, List.length_cons, Nat.succ_mul]; omega
theorem weights_all {l : List (DataW H)} {d : DataW H} (h : d ∈ l) : ∀ n ∈ d.weights P e, n ∈ DataW.weightsAll P e l := by
  induction l with
  | nil => cases h
  | cons x l ih =>
    intro n hn
    simp only [DataW.weightsAll, List.mem_append]
    rcases List.mem_cons.1 h with rfl | h
    · exact .inl hn
    · exact .inr (ih h n hn)
theorem opens_slice (size : Nat) {cells : α → List Value} {I : α → Prop} (ht : P.underlying t = some (.slice e)) (hC : P.cellsOf e = size) (h0 : 0 < size) (hs : ∀ a, (cells a).length = size) (el : Opens enc P w e cells I) :
    Opens enc P w t (fun s : Sl α => [s.val]) (Sl.In P w e cells I) := fun spare held fuel cs x h hw => by
  subst hC
  rcases open_slice ht h with ⟨rfl, rfl⟩ | ⟨a, len, cap, m, n, D, Pl, rfl, _, hl, hm, hmm, rfl, hi⟩
  · exact ⟨⟨none, 0, 0, []⟩, rfl, ⟨rfl, Nat.le_refl _, Nat.zero_le _, by simp, Rd.nil, fun _ h => by simp at h⟩⟩
  · have hnm : len ≤ m := by rw [hmm]; split <;> omega
    have hb : len * P.bytesOf e ≤ reachBytes := by
      have := hw _ (by simp only [DataW.weights, ht]; exact List.mem_cons_self)
      simp only [List.length_map, List.length_range] at this
      exact Nat.le_trans (Nat.mul_le_mul_right _ (by omega)) this
    rcases Nat.eq_zero_or_pos len with hlen | hlen
    · subst hlen
      exact ⟨⟨some a, 0, cap, []⟩, rfl, ⟨rfl, hl, hm, hb, Rd.nil, fun _ h => by simp at h⟩⟩
    · have one : ∀ i, i < len → ∃ y : α, I y ∧ ∀ j u, (cells y)[j]? = some u → w.cell? (a.add (i * P.cellsOf e + j)) = some u := by
        intro i hil
        obtain ⟨cs', hc, ht'⟩ := hi i (by omega)
        obtain ⟨y, rfl, hy⟩ := el _ _ _ _ _ ht' (fun n hn => hw n (by
          simp only [DataW.weights, ht, List.mem_cons, List.mem_append]
          exact .inr (.inl (weights_all (List.mem_map_of_mem (List.mem_range.2 hil)) n hn))))
        obtain ⟨_, _, hat⟩ := World.cells?_some hc
        refine ⟨y, hy, fun j u hu => ?_⟩
        have hj : j < P.cellsOf e := by
          have := (List.getElem?_eq_some_iff.1 hu).1
          rwa [hs] at this
        rw [← Go.Deep.add_add, hat j hj, hu]
      have key : ∀ i, ∃ y : α, i < len → I y ∧ ∀ j u, (cells y)[j]? = some u → w.cell? (a.add (i * P.cellsOf e + j)) = some u := by
        intro i
        by_cases hil : i < len
        · obtain ⟨y, h1, h2⟩ := one i hil
          exact ⟨y, fun _ => ⟨h1, h2⟩⟩
        · obtain ⟨y, _⟩ := one 0 hlen
          exact ⟨y, fun h => absurd h hil⟩
      obtain ⟨g, hg⟩ := Classical.axiomOfChoice key
      refine ⟨⟨some a, len, cap, (List.range len).map g⟩, rfl, ⟨by simp, hl, hm, hb, plain_of_cells fun i u hu => ?_, fun x hx => ?_⟩⟩
      · have hil : i < len * P.cellsOf e := by
          have := (List.getElem?_eq_some_iff.1 hu).1
          rw [flat_length hs] at this
          simpa using this
        have hk : i / P.cellsOf e < len := Nat.div_lt_of_lt_mul (by rw [Nat.mul_comm]; exact hil)
        have hij : i / P.cellsOf e * P.cellsOf e + i % P.cellsOf e = i := Nat.div_add_mod' i (P.cellsOf e)
        rw [← hij, flat_get hs _ _ _ (Nat.mod_lt _ h0) (by simpa using hk)] at hu
        simp only [List.getElem_map, List.getElem_range] at hu
        rw [← hij]
        exact (hg _ hk).2 _ u hu
      · simp only [List.mem_map, List.mem_range] at hx
        obtain ⟨i, hil, rfl⟩ := hx
        exact (hg i hil).1
def OpensF (enc : TypeId × Value → H) (P : Program) (w : World) (L : Nat) (fs : List Field) (off : Nat) (cells : α → List Value) (I : α → Prop) : Prop :=
  ∀ (spare : Nat → Bool) (held : Bool) (fuel : Nat) (cs : List Value) (ys : List (DataW H × List MemPlace)), cs.length = L → ys.length = fs.length →
    (∀ (i : Nat) (f : Field), fs[i]? = some f → DataW.trod enc P w 0 spare held fuel f.type ((cs.drop f.offset).take (P.cellsOf f.type)) = ys[i]?) →
    (∀ n ∈ DataW.weightsEach P (fs.map (·.type)) (ys.map (·.1)), n ≤ reachBytes) → ∃ a, cs.drop off = cells a ∧ I a
theorem OpensF.nil {L : Nat} : OpensF enc P w L [] L (fun _ : Unit => []) (fun _ => True) := fun _ _ _ cs _ hl _ _ _ => ⟨(), List.drop_eq_nil_of_le (by omega), trivial⟩
theorem OpensF.cons (size : Nat) {L off : Nat} {f : Field} {fs : List Field} {cells : α → List Value} {I : α → Prop} {cells' : β → List Value} {I' : β → Prop} (h : Opens enc P w f.type cells I) (ho : f.offset = off) (hc : P.cellsOf f.type = size)
    (r : OpensF enc P w L fs (off + size) cells' I') : OpensF enc P w L (f :: fs) off (fun x : α × β => cells x.1 ++ cells' x.2) (fun x => I x.1 ∧ I' x.2) := fun spare held fuel cs ys hl hy hf hw => by
  subst ho hc
  cases ys with
  | nil => simp at hy
  | cons y ys =>
    obtain ⟨a, ha, hi⟩ := h _ _ _ _ y (hf 0 f rfl) (fun n hn => hw n (by simp only [List.map_cons, DataW.weightsEach, List.mem_append]; exact .inl hn))
    obtain ⟨b, hb, hj⟩ := r spare held fuel cs ys hl (by simpa using hy) (fun i g hg => hf (i + 1) g hg) (fun n hn => hw n (by simp only [List.map_cons, DataW.weightsEach, List.mem_append]; exact .inr hn))
    refine ⟨(a, b), ?_, hi, hj⟩
    show _ = cells a ++ cells' b
    rw [← ha, ← hb, ← List.drop_drop, List.take_append_drop]
theorem opens_struct {L : Nat} {fs : Array Field} {cells : α → List Value} {I : α → Prop} (hu : P.underlying t = some (.struct fs)) (hL : P.cellsOf t = L) (hF : OpensF enc P w L fs.toList 0 cells I) : Opens enc P w t cells I := fun spare held fuel cs x h hw => by
  obtain ⟨ys, n, _, rfl, hlen, hyl, hf⟩ := DataW.trod_struct hu h
  obtain ⟨a, ha, hi⟩ := hF spare held n cs ys (hlen.trans hL) (by simpa using hyl) (fun i f hif => hf i f (by simpa using hif)) (fun n hn => hw n (by simp only [DataW.weights, hu]; exact hn))
  exact ⟨a, by simpa using ha, hi⟩
theorem Opens.param_struct {fs : Array Field} {cells : α → List Value} {I : α → Prop} (h : Opens enc P w t cells I) (hu : P.underlying t = some (.struct fs)) {r : Reach} {b0 : Nat} {spare : Nat → Bool} {held : Bool} {v : Value} {d : DataW H} {p : List MemPlace}
    (hv : Value.okWide P w r b0 t v) (ht : DataW.Trod enc P w 0 spare held t v d p) (hw : ∀ n ∈ d.weights P t, n ≤ reachBytes) : ∃ a, v = .agg (cells a).toArray ∧ I a := by
  obtain ⟨cs, rfl, _⟩ := okWide_struct hu hv
  obtain ⟨fuel, hf⟩ := ht
  obtain ⟨a, ha, hi⟩ := h _ _ _ _ _ hf hw
  exact ⟨a, by rw [← ha]; rfl, hi⟩
theorem Opens.param_slice {I : Sl α → Prop} (h : Opens enc P w t (fun s : Sl α => [s.val]) I) (ht : P.underlying t = some (.slice e)) {r : Reach} {b0 : Nat} {spare : Nat → Bool} {held : Bool} {v : Value} {d : DataW H} {p : List MemPlace}
    (hv : Value.okWide P w r b0 t v) (htr : DataW.Trod enc P w 0 spare held t v d p) (hw : ∀ n ∈ d.weights P t, n ≤ reachBytes) : ∃ s : Sl α, v = s.val ∧ I s := by
  obtain ⟨A, n, c, rfl⟩ := okWide_slice ht hv
  obtain ⟨fuel, hf⟩ := htr
  obtain ⟨a, ha, hi⟩ := h _ _ _ _ _ hf hw
  exact ⟨a, by simpa [Value.cells] using ha, hi⟩
end
open Go.RowKit
theorem retB {a b : Bool} (h : a = b) : Ending.returned (.bool a) = Ending.returned (.bool b) := by rw [h]
theorem retI {k : IntKind} {a b : Int} (h : a = b) : Ending.returned (.int k a) = Ending.returned (.int k b) := by rw [h]
theorem bcell {W w1 : World} (hb : Ext W w1) : (∀ b o, b < W.heap.size → w1.cell? ⟨b, o, none⟩ = W.cell? ⟨b, o, none⟩) ∧ (∀ b o, b < W.heap.size → w1.frozen? ⟨b, o, none⟩ = W.frozen? ⟨b, o, none⟩) :=
  ⟨fun b o h => Below.cell (p := ⟨b, o, none⟩) hb h, fun b o h => Below.frozen (p := ⟨b, o, none⟩) hb h⟩
theorem callF {P : Program} {f : FuncId} {fn : Func} {c : Code} (hf : P.funcs[f]? = some fn) (hname : (fn.name == "runtime.NumGoroutine") = false) (hb : fn.body = some c) : ∀ args w, (callFunc f args).run P w = .ok (.enter f args) w := fun args w => by
  have h1 : fn.name ≠ "runtime.NumGoroutine" := by simpa using hname
  simp [callFunc, hf, h1, hb]
theorem rd_flat {α : Type} {cells : α → List Value} {size : Nat} (hs : ∀ a, (cells a).length = size) (h0 : 0 < size) {w : World} {lo hi : Nat} {A : Option Addr} {xs : List α} (h : Rd w lo hi A (xs.flatMap cells)) {k : Nat} (hk : k < xs.length) :
    ∃ b o, A = some ⟨b, o, none⟩ ∧ lo ≤ b ∧ b < hi ∧ ∀ j u, (cells xs[k])[j]? = some u → w.cell? ⟨b, o + k * size + j, none⟩ = some u := by
  obtain ⟨b, o, h1, h2, h3, h4⟩ := h (fun e => by
    have := flat_length hs xs
    rw [e] at this
    have := Nat.mul_pos (show 0 < xs.length by omega) h0
    simp at *
    omega)
  refine ⟨b, o, h1, h2, h3, fun j u hu => ?_⟩
  have hj : j < size := by
    have := (List.getElem?_eq_some_iff.1 hu).1
    rwa [hs] at this
  rw [Nat.add_assoc]
  exact h4 _ u (by rw [flat_get hs xs k j hj hk]; exact hu)
structure Sl.At {α : Type} (w : World) (lo hi : Nat) (cells : α → List Value) (I : α → Prop) (s : Sl α) : Prop where
  len : s.n = s.xs.length
  le : s.n ≤ s.c
  cap : s.c ≤ maxLen
  rd : Rd w lo hi s.A (s.xs.flatMap cells)
  all : ∀ x ∈ s.xs, I x
theorem Sl.At.imp {α : Type} {w w' : World} {lo hi lo' hi' : Nat} {cells : α → List Value} {I I' : α → Prop} {s : Sl α} (h : Sl.At w lo hi cells I s) (hr : Rd w lo hi s.A (s.xs.flatMap cells) → Rd w' lo' hi' s.A (s.xs.flatMap cells)) (hi : ∀ x, I x → I' x) : Sl.At w' lo' hi' cells I' s :=
  ⟨h.len, h.le, h.cap, hr h.rd, fun x hx => hi x (h.all x hx)⟩
def octc (b : UInt8) : List Value := [.int .u8 (b.toNat : Int)]
theorem octs_flat (l : List UInt8) : l.flatMap octc = bytes l := by
  induction l with
  | nil => rfl
  | cons b l ih => rw [List.flatMap_cons, ih]; rfl
abbrev Oct := Sl UInt8
abbrev Oct.At (w : World) (lo hi : Nat) (s : Oct) : Prop := Sl.At w lo hi octc (fun _ => True) s
theorem Oct.At.rdb {w : World} {lo hi : Nat} {s : Oct} (h : Oct.At w lo hi s) : Rd w lo hi s.A (bytes s.xs) := by rw [← octs_flat]; exact h.rd
def octv (s : Oct) : List Value := [s.val]
structure Wrt where
  pos : Int
  data : Oct
def Wrt.cells (x : Wrt) : List Value := [.int .i64 x.pos, x.data.val]
structure Wrt.At (w : World) (lo hi : Nat) (x : Wrt) : Prop where
  p0 : -9223372036854775808 ≤ x.pos
  p1 : x.pos ≤ 9223372036854775807
  data : Oct.At w lo hi x.data
structure Dev where
  secs : Sl Oct
  waits : Sl Wrt
def Dev.cells (d : Dev) : List Value := [d.secs.val, d.waits.val]
structure Dev.At (w : World) (lo hi : Nat) (d : Dev) : Prop where
  secs : Sl.At w lo hi octv (Oct.At w lo hi) d.secs
  waits : Sl.At w lo hi Wrt.cells (Wrt.At w lo hi) d.waits
section
variable {w w' : World} {lo hi lo' hi' : Nat}
theorem Oct.At.imp {s : Oct} (h : Oct.At w lo hi s) (hr : ∀ A cs, Rd w lo hi A cs → Rd w' lo' hi' A cs) : Oct.At w' lo' hi' s := Sl.At.imp h (hr _ _) (fun _ h => h)
theorem Wrt.At.imp {x : Wrt} (h : Wrt.At w lo hi x) (hr : ∀ A cs, Rd w lo hi A cs → Rd w' lo' hi' A cs) : Wrt.At w' lo' hi' x := ⟨h.p0, h.p1, Oct.At.imp h.data hr⟩
theorem Dev.At.imp {d : Dev} (h : Dev.At w lo hi d) (hr : ∀ A cs, Rd w lo hi A cs → Rd w' lo' hi' A cs) : Dev.At w' lo' hi' d :=
  ⟨Sl.At.imp h.secs (hr _ _) (fun _ hx => Oct.At.imp hx hr), Sl.At.imp h.waits (hr _ _) (fun _ hx => Wrt.At.imp hx hr)⟩
theorem rd_on (e : Ext w w') (hh : hi ≤ w.heap.size) : ∀ A cs, Rd w lo hi A cs → Rd w' lo w'.heap.size A cs := fun _ _ h => Rd.at h (Below.mono e hh) hh
theorem Dev.At.on {d : Dev} (h : Dev.At w lo hi d) (e : Ext w w') (hh : hi ≤ w.heap.size) : Dev.At w' lo w'.heap.size d := h.imp (rd_on e hh)
theorem Oct.At.on {d : Oct} (h : Oct.At w lo hi d) (e : Ext w w') (hh : hi ≤ w.heap.size) : Oct.At w' lo w'.heap.size d := Oct.At.imp h (rd_on e hh)
end
open Go.RowKit Go.Shelf
attribute [local go_sem] Oper.semAt_some
def KeepB (Bs b m : Nat) (W W' : World) : Prop :=
  (∀ v, W.cell? ⟨Bs, 0, none⟩ = some v → W'.cell? ⟨Bs, 0, none⟩ = some v) ∧ ∀ j, j < m → (∃ v : Int, W.cell? ⟨b, j, none⟩ = some (.int .u8 v)) → ∃ v : Int, W'.cell? ⟨b, j, none⟩ = some (.int .u8 v)
theorem keepB_refl (Bs b m : Nat) (W : World) : KeepB Bs b m W W := ⟨fun _ h => h, fun _ _ h => h⟩
theorem keepB_t {Bs b m : Nat} {A B C : World} (h : KeepB Bs b m A B) (k : KeepB Bs b m B C) : KeepB Bs b m A C := ⟨fun v hv => k.1 v (h.1 v hv), fun j hj hv => k.2 j hj (h.2 j hj hv)⟩
theorem keepB_b {Bs b m : Nat} {w : World} (W : World) (l : Nat) (o o' : Obj) (_ : w.heap.size ≤ l) (h : W.heap[l]? = some o) (hc : o.isCells = false) (_ : o.isWalk = false) : KeepB Bs b m W (W.putObj l o') := by
  have key : ∀ (p : Addr) v, W.cell? p = some v → (W.putObj l o').cell? p = some v := fun p v hv => by
    have hne : p.block ≠ l := by
      rintro rfl
      unfold World.cell? at hv
      rw [h] at hv
      cases o <;> simp [Obj.isCells] at hc hv
    rw [World.cell?_of_block (World.putObj_heap_other hne)]
    exact hv
  exact ⟨fun v hv => key _ v hv, fun j _ ⟨v, hv⟩ => ⟨v, key _ _ hv⟩⟩
abbrev BackX (m : Nat) := { i : Nat // i < m } × Int
def backEnc (m : Nat) (x : BackX m) : Array Value := #[.int .i64 (x.1.1 : Int), .int .u8 x.2]
set_option maxRecDepth 100000 in
set_option maxHeartbeats 2000000 in
theorem back1_in (F : Fence) (n : Nat) (hf : F.fn 219) (hro : F.round = none) (hn : 1 ≤ n) (l Bs b m : Nat) (hm : m ≤ 8) (J Jx : List (BackX m) → World → Prop)
    (hY : ∀ pre x W, J pre W → pre.length < m → YieldAt F (n - 1) Tryz.prog l (backEnc m x) W fun e W' =>
      (e = .returned (.bool true) ∧ J (pre ++ [x]) W' ∧ KeepB Bs b m W W') ∨ (e = .returned (.bool false) ∧ Jx (pre ++ [x]) W'))
    (W : World) (hBs : W.cell? ⟨Bs, 0, none⟩ = some (.slice (some ⟨b, 0, none⟩) m m)) (hc : ∀ j, j < m → ∃ v : Int, W.cell? ⟨b, j, none⟩ = some (.int .u8 v)) (h0 : J [] W) :
    CallsIn F n Tryz.prog 219 #[.func (.yield l) #[] #[], .pointer (some ⟨Bs, 0, none⟩)] W fun e W' => (∃ v, e = .returned v) ∧
      ((∃ ys : List (BackX m), ys.map (·.1.1) = (List.range m).map (fun j => m - 1 - j) ∧ J ys W') ∨ (∃ pre, True ∧ Jx pre W')) := by
  refine callsIn_of_wp Tryz.func219 rfl hf ?_ hro
  simp only [Tryz.ntmps219, List.size_toArray, List.length_cons, List.length_nil, Nat.reduceAdd, Nat.reduceSub, Array.replicate_succ, Array.replicate_zero, List.push_toArray, List.append_toArray, List.nil_append, List.cons_append]
  gi_wp2
  gi_loopw [3] (fun i wr => ∃ (k : Nat) (pre : List (BackX m)), k ≤ m ∧ i = .int .i64 ((m : Int) - 1 - k) ∧ pre.length = k ∧ pre.map (·.1.1) = (List.range k).map (fun j => m - 1 - j) ∧ J pre wr ∧ KeepB Bs b m W wr)
    (fun i _ => (intOf i + 1).toNat)
  case atStart => exact ⟨0, [], Nat.zero_le _, by simp, rfl, rfl, h0, keepB_refl _ _ _ _⟩
  case round =>
    obtain ⟨k, pre, hk, rfl, hpl, hpm, hJs, hkp⟩ := hrel
    have HP := Lib.hid hpm
    have HL := Lib.hid hpl
    clear hpm hpl
    have hB' := hkp.1 _ hBs
    by_cases hlt : k < m
    · obtain ⟨v, hv⟩ := hkp.2 (m - 1 - k) (by omega) (hc (m - 1 - k) (by omega))
      obtain ⟨fn, tmps, assign, body, hy, hR⟩ := hY pre (⟨m - 1 - k, by omega⟩, v) wr hJs (by rw [HL.out]; exact hlt)
      have hcast : ((m - 1 - k : Nat) : Int) = (m : Int) - 1 - k := by omega
      simp only [backEnc, hcast] at hy
      clear hcast
      gi_wp2
      refine hR.mono ?_
      rintro e W3 (⟨rfl, hJ3, hk3⟩ | ⟨rfl, hJx3⟩)
      · have hkp3 := keepB_t hkp hk3
        gi_wp2
        go_roundw
        case rel =>
          refine ⟨k + 1, _, by omega, by congr 1; omega, ?_, ?_, hJ3, hkp3⟩
          · rw [List.length_append, HL.out]
            rfl
          · rw [List.map_append, HP.out, List.range_succ, List.map_append]
            rfl
        case measure => simp [intOf]; omega
      · gi_wp2
        refine bodyPost_ret (results_none rfl _ _ _) rfl ?_
        exact ⟨⟨_, rfl⟩, .inr ⟨_, trivial, hJx3⟩⟩
    · obtain rfl : k = m := by omega
      gi_wp2
      go_end0
      exact ⟨⟨_, rfl⟩, .inl ⟨pre, HP.out, hJs⟩⟩
theorem back_stops (F : Fence) (n : Nat) (hf : F.fn 219) (hro : F.round = none) (hn : 1 ≤ n) (Bs b m : Nat) (hm : m ≤ 8) (w : World) (hbl : b < w.heap.size) (hBl : Bs < w.heap.size)
    (hBs : w.cell? ⟨Bs, 0, none⟩ = some (.slice (some ⟨b, 0, none⟩) m m)) (hc : ∀ j, j < m → ∃ v : Int, w.cell? ⟨b, j, none⟩ = some (.int .u8 v)) :
    SeqStopsK F n Tryz.prog 219 #[.pointer (some ⟨Bs, 0, none⟩)] (backEnc m) (KeepB Bs b m) (fun ys => ys.map (·.1.1) = (List.range m).map (fun j => m - 1 - j)) (fun _ => True) m w :=
  fun l J Jx W hW _ _ hY h0 => back1_in F n hf hro hn l Bs b m hm J Jx hY W ((hW.cell (p := ⟨Bs, 0, none⟩) hBl).trans hBs) (fun j hj => by
    obtain ⟨v, hv⟩ := hc j hj
    exact ⟨v, (hW.cell (p := ⟨b, j, none⟩) hbl).trans hv⟩) h0
set_option maxRecDepth 100000 in
set_option maxHeartbeats 1000000 in
theorem backward_in (F : Fence) (n : Nat) (hf : F.fn 190) (hro : F.round = none) (a : Option Addr) (len cap : Nat) (w : World) :
    CallsIn F n Tryz.prog 190 #[.slice a len cap] w fun e w' => e = .returned (.func (.func 219) #[] #[.pointer (some ⟨w.heap.size, 0, none⟩)]) ∧ w' = w.alloc (.cells #[.slice a len cap] 53) := by
  refine callsIn_of_wp Tryz.func190 rfl hf ?_ hro
  simp only [Tryz.ntmps190, List.size_toArray, List.length_cons, List.length_nil, Nat.reduceAdd, Nat.reduceSub, Array.replicate_succ, Array.replicate_zero, List.push_toArray, List.append_toArray, List.nil_append, List.cons_append]
  gi_wp2
  go_ret
  exact ⟨rfl, rfl⟩
def bt (n : Int) (i : Nat) : UInt8 := UInt8.ofNat ((n / (256 : Int) ^ i) % 256).toNat
def puts (n : Int) (m : Nat) : List UInt8 := (List.range m).map fun j => bt n (m - 1 - j)
def putStep (s : Int × List UInt8) (i : Nat) : Int × List UInt8 := (s.1 / 256, s.2.set i (bt s.1 0))
def putState (n : Int) (m : Nat) (l : List Nat) : Int × List UInt8 := l.foldl putStep (n, List.replicate m 0)
theorem putState_snoc (n : Int) (m : Nat) (l : List Nat) (i : Nat) : putState n m (l ++ [i]) = putStep (putState n m l) i := by simp [putState]
theorem putState_len (n : Int) (m : Nat) (l : List Nat) : (putState n m l).2.length = m := by
  unfold putState
  suffices h : ∀ (s : Int × List UInt8), s.2.length = m → (l.foldl putStep s).2.length = m from h _ (by simp)
  induction l with
  | nil => exact fun s h => h
  | cons i l ih => exact fun s h => ih _ (by simp [putStep, h])
theorem putState_all (n : Int) (m k : Nat) (hk : k ≤ m) : (putState n m ((List.range k).map (fun j => m - 1 - j))).1 = n / (256 : Int) ^ k ∧ ∀ j, j < m → (putState n m ((List.range k).map (fun j => m - 1 - j))).2[j]? = some (if m - k ≤ j then bt n (m - 1 - j) else 0) := by
  induction k with
  | zero =>
    refine ⟨by simp [putState], fun j hj => ?_⟩
    simp [putState, hj]
    intro h
    omega
  | succ k ih =>
    obtain ⟨h1, h2⟩ := ih (by omega)
    rw [List.range_succ, List.map_append, List.map_cons, List.map_nil, putState_snoc]
    generalize putState n m ((List.range k).map (fun j => m - 1 - j)) = s at *
    constructor
    · rw [putStep, h1, Int.ediv_ediv_of_nonneg (by exact Int.pow_nonneg (by omega)), Int.pow_succ]
    · intro j hj
      simp only [putStep]
      rw [List.getElem?_set]
      have hl : m - 1 - k < s.2.length := by
        have := h2 (m - 1 - k) (by omega)
        exact (List.getElem?_eq_some_iff.1 this).1
      by_cases e : m - 1 - k = j
      · subst e
        rw [if_pos rfl, if_pos hl, if_pos (by omega)]
        congr 1
        rw [show m - 1 - (m - 1 - k) = k from by omega, h1, bt, bt]
        simp
      · rw [if_neg e, h2 j hj]
        by_cases e2 : m - k ≤ j
        · rw [if_pos e2, if_pos (by omega)]
        · rw [if_neg e2, if_neg (by omega)]
theorem putState_puts (n : Int) (m : Nat) : (putState n m ((List.range m).map (fun j => m - 1 - j))).2 = puts n m := by
  obtain ⟨_, h⟩ := putState_all n m m (Nat.le_refl _)
  apply List.ext_getElem?
  intro j
  by_cases hj : j < m
  · rw [h j hj, if_pos (by omega), puts, List.getElem?_map, List.getElem?_range hj]
    rfl
  · rw [List.getElem?_eq_none (by rw [putState_len]; omega), List.getElem?_eq_none (by simp [puts]; omega)]
theorem puts_length (n : Int) (m : Nat) : (puts n m).length = m := by simp [puts]
def BlkP (w : World) (g : Nat) (t : TypeId) (cs : Array Value) : Prop := w.heap[g]? = some (.cells cs t (0, 0))
theorem BlkP.cell {w : World} {g : Nat} {t : TypeId} {cs : Array Value} (h : BlkP w g t cs) (i : Nat) : w.cell? ⟨g, i, none⟩ = cs[i]? := by
  unfold BlkP at h
  unfold World.cell?
  rw [h]
  simp
theorem BlkP.frozen {w : World} {g : Nat} {t : TypeId} {cs : Array Value} (h : BlkP w g t cs) (i : Nat) : w.frozen? ⟨g, i, none⟩ = false := by
  unfold BlkP at h
  simp [World.frozen?, h]
theorem BlkP.new (w : World) (t : TypeId) (cs : Array Value) : BlkP (w.alloc (.cells cs t)) w.heap.size t cs := heap_alloc_new w _
theorem BlkP.lt {w : World} {g : Nat} {t : TypeId} {cs : Array Value} (h : BlkP w g t cs) : g < w.heap.size := (Array.getElem?_eq_some_iff.1 h).1
theorem BlkP.alloc {w : World} {g : Nat} {t : TypeId} {cs : Array Value} (h : BlkP w g t cs) (o : Obj) : BlkP (w.alloc o) g t cs := (Below.heap_alloc w o g h.lt).trans h
theorem BlkP.set_ {w : World} {g : Nat} {t : TypeId} {cs : Array Value} (h : BlkP w g t cs) (i : Nat) (u : Value) : BlkP (w.setCell ⟨g, i, none⟩ u) g t (cs.setIfInBounds i u) := by
  unfold BlkP at h ⊢
  simp [World.setCell, Array.getElem?_modify, h]
theorem BlkP.far {w : World} {g : Nat} {t : TypeId} {cs : Array Value} (h : BlkP w g t cs) {p : Addr} (hp : g ≠ p.block) (u : Value) : BlkP (w.setCell p u) g t cs := (Below.heap_setCell w p u g hp).trans h
theorem BlkP.kept {W W' : World} {g : Nat} {t : TypeId} {cs : Array Value} {row : Option Nat} (h : BlkP W g t cs) (hg : W.grownBy W' row) (hr : ∀ r, row = some r → ∃ o : Obj, W.heap[r]? = some o ∧ o.isCells = false) : BlkP W' g t cs :=
  (hg.block g h.lt (fun e => by
    obtain ⟨o, ho, hc⟩ := hr g e.symm
    unfold BlkP at h
    rw [h] at ho
    cases ho
    cases hc)).trans h
theorem BlkP.own {w : World} {g : Nat} {t : TypeId} {base n : Nat} {cs : List Value} (h : BlkP w g t cs.toArray) (hb : base ≤ g) (hn : cs.length = n) (hm : n ≤ maxLen) : w.ownsRow base t 1 (.slice (some ⟨g, 0, none⟩) n n) n cs :=
  ⟨by omega, .inr ⟨g, n, cs.toArray, rfl, hb, h, Nat.le_refl _, hm, by simp [hn], by simp [← hn]⟩⟩
theorem putState_bd (n : Int) (m : Nat) (l : List Nat) (h1 : -9223372036854775808 ≤ n) (h2 : n ≤ 9223372036854775807) : -9223372036854775808 ≤ (putState n m l).1 ∧ (putState n m l).1 ≤ 9223372036854775807 := by
  unfold putState
  suffices h : ∀ (s : Int × List UInt8), -9223372036854775808 ≤ s.1 → s.1 ≤ 9223372036854775807 → -9223372036854775808 ≤ (l.foldl putStep s).1 ∧ (l.foldl putStep s).1 ≤ 9223372036854775807 from h _ h1 h2
  induction l with
  | nil => exact fun s a b => ⟨a, b⟩
  | cons i l ih => exact fun s a b => ih _ (by simp only [putStep]; omega) (by simp only [putStep]; omega)
theorem bt_zero (n : Int) : ((bt n 0).toNat : Int) = n % 256 := by
  have h1 : 0 ≤ n % 256 := Int.emod_nonneg _ (by omega)
  have h2 : n % 256 < 256 := Int.emod_lt_of_pos _ (by omega)
  simp only [bt, Int.pow_zero, Int.ediv_one]
  rw [UInt8.toNat_ofNat']
  omega
theorem bytes_set (l : List UInt8) (i : Nat) (b : UInt8) : bytes (l.set i b) = (bytes l).set i (.int .u8 (b.toNat : Int)) := by
  simp [bytes, List.map_set]
theorem info5 : (Tryz.prog.info? 5).map (fun i => (i.zero, i.size, i.bytes)) = some (some (.int .u8 0), 1, 1) := by kernel_rfl
theorem zeros_eq (m : Nat) : madeCells (Value.int .u8 0).cells m = (bytes (List.replicate m 0)).toArray := by
  apply Array.toList_inj.1
  show (madeCells #[Value.int .u8 0] m).toList = _
  rw [toList_madeCells_one]
  simp [bytes]
theorem mk_bytes (m : Nat) (hm : m ≤ 140737488355328) (u : World) : (Instr.makeSlice 53 (.int .i64 (m : Int)) (.int .i64 (m : Int))).run Tryz.prog u = .ok (.slice (some ⟨u.heap.size, 0, none⟩) m m) (u.alloc (.cells (bytes (List.replicate m 0)).toArray 5)) := by
  obtain ⟨i0, hi0, hz0, hz1, hz2⟩ := info_parts info5
  have h := run_make (P := Tryz.prog) u 53 5 i0 _ Tryz.underlying53 hi0 hz0 .i64 .i64 m m (by omega) (by omega) (by rw [hz2]; omega) (by omega)
  rw [hz1, Int.toNat_natCast, Nat.mul_one, zeros_eq] at h
  exact h
set_option maxRecDepth 100000 in
set_option maxHeartbeats 2000000 in
theorem put_in (F : Fence) (n : Nat) (h3 : F.fn 147) (h5 : F.fn 190) (h6 : F.fn 219) (hro : F.round = none) (hn : 3 ≤ n) (x size : Int) (m : Nat) (hm : m ≤ 8) (hs : size = (m : Int)) (w : World) (hx1 : -9223372036854775808 ≤ x) (hx2 : x ≤ 9223372036854775807) :
    CallsIn F n Tryz.prog 147 #[.int .i64 x, .int .i64 size] w fun e W' => ∃ v, e = .returned v ∧ W'.ownsRow w.heap.size 5 1 v m (bytes (puts x m)) ∧ Ext w W' := by
  subst hs
  have h1 : 1 ≤ n := by omega
  have hmk := mk_bytes m (by omega)
  refine callsIn_of_wp_marks Tryz.func147 rfl h3 ?_ hro
  simp only [Tryz.ntmps147, List.size_toArray, List.length_cons, List.length_nil, Nat.reduceAdd, Nat.reduceSub, Array.replicate_succ, Array.replicate_zero, List.push_toArray, List.append_toArray, List.nil_append, List.cons_append]
  gi_wp2_with (gi_at_call 190; refine (backward_in F (n - 1) h5 hro _ _ _ _).mono ?_; rintro e w' ⟨rfl, rfl⟩)
  have B0 : BlkP ((((w.alloc (Obj.cells #[Value.int IntKind.i64 x] 3)).alloc (Obj.cells (bytes (List.replicate m 0)).toArray 5)).alloc (Obj.cells #[Value.slice (some { block := w.heap.size + 1, off := 0 }) m m] 53)).alloc (Obj.cells #[Value.slice (some { block := w.heap.size + 1, off := 0 }) m m] 53)) w.heap.size 3 #[.int .i64 x] := (((BlkP.new w _ _).alloc _).alloc _).alloc _
  have B1 : BlkP ((((w.alloc (Obj.cells #[Value.int IntKind.i64 x] 3)).alloc (Obj.cells (bytes (List.replicate m 0)).toArray 5)).alloc (Obj.cells #[Value.slice (some { block := w.heap.size + 1, off := 0 }) m m] 53)).alloc (Obj.cells #[Value.slice (some { block := w.heap.size + 1, off := 0 }) m m] 53)) (w.heap.size + 1) 5 (bytes (List.replicate m 0)).toArray := by
    have := ((BlkP.new (w.alloc (Obj.cells #[Value.int IntKind.i64 x] 3)) 5 (bytes (List.replicate m 0)).toArray).alloc (Obj.cells #[Value.slice (some { block := w.heap.size + 1, off := 0 }) m m] 53)).alloc (Obj.cells #[Value.slice (some { block := w.heap.size + 1, off := 0 }) m m] 53)
    rwa [World.size_alloc] at this
  have B2 : BlkP ((((w.alloc (Obj.cells #[Value.int IntKind.i64 x] 3)).alloc (Obj.cells (bytes (List.replicate m 0)).toArray 5)).alloc (Obj.cells #[Value.slice (some { block := w.heap.size + 1, off := 0 }) m m] 53)).alloc (Obj.cells #[Value.slice (some { block := w.heap.size + 1, off := 0 }) m m] 53)) (w.heap.size + 1 + 1) 53 #[Value.slice (some { block := w.heap.size + 1, off := 0 }) m m] := by
    have := (BlkP.new ((w.alloc (Obj.cells #[Value.int IntKind.i64 x] 3)).alloc (Obj.cells (bytes (List.replicate m 0)).toArray 5)) 53 #[Value.slice (some { block := w.heap.size + 1, off := 0 }) m m]).alloc (Obj.cells #[Value.slice (some { block := w.heap.size + 1, off := 0 }) m m] 53)
    rwa [World.size_alloc, World.size_alloc] at this
  have B3 : BlkP ((((w.alloc (Obj.cells #[Value.int IntKind.i64 x] 3)).alloc (Obj.cells (bytes (List.replicate m 0)).toArray 5)).alloc (Obj.cells #[Value.slice (some { block := w.heap.size + 1, off := 0 }) m m] 53)).alloc (Obj.cells #[Value.slice (some { block := w.heap.size + 1, off := 0 }) m m] 53)) (w.heap.size + 1 + 1 + 1) 53 #[Value.slice (some { block := w.heap.size + 1, off := 0 }) m m] := by
    have := BlkP.new (((w.alloc (Obj.cells #[Value.int IntKind.i64 x] 3)).alloc (Obj.cells (bytes (List.replicate m 0)).toArray 5)).alloc (Obj.cells #[Value.slice (some { block := w.heap.size + 1, off := 0 }) m m] 53)) 53 #[Value.slice (some { block := w.heap.size + 1, off := 0 }) m m]
    rwa [World.size_alloc, World.size_alloc, World.size_alloc] at this
  have hB : Below w.heap.size w ((((w.alloc (Obj.cells #[Value.int IntKind.i64 x] 3)).alloc (Obj.cells (bytes (List.replicate m 0)).toArray 5)).alloc (Obj.cells #[Value.slice (some { block := w.heap.size + 1, off := 0 }) m m] 53)).alloc (Obj.cells #[Value.slice (some { block := w.heap.size + 1, off := 0 }) m m] 53)) :=
    (((Ext.refl w).alloc _).alloc _).alloc _ |>.alloc _
  generalize hW0 : ((((w.alloc (Obj.cells #[Value.int IntKind.i64 x] 3)).alloc (Obj.cells (bytes (List.replicate m 0)).toArray 5)).alloc (Obj.cells #[Value.slice (some { block := w.heap.size + 1, off := 0 }) m m] 53)).alloc (Obj.cells #[Value.slice (some { block := w.heap.size + 1, off := 0 }) m m] 53)) = W0 at *
  have hz0 : W0.heap.size = w.heap.size + 1 + 1 + 1 + 1 := by rw [← hW0]; simp
  clear hmk
  refine wpIn_rangeFunc_ownF hro h1 (gf := 219) (lb := #[.pointer (some ⟨w.heap.size + 1 + 1 + 1, 0, none⟩)]) rfl h6 (enters_of Tryz.func219 (by kernel_rfl) rfl)
    (back_stops F (n - 1) h6 hro (by omega) (w.heap.size + 1 + 1 + 1) (w.heap.size + 1) m hm W0 (by omega) (by omega) (B3.cell 0) (fun j hj => ⟨0, by rw [B1.cell j]; simp [bytes, hj]⟩)) keepB_t keepB_b (Below.refl _ _) (fun _ => rfl)
    (fun pre W => (BlkP W w.heap.size 3 #[.int .i64 (putState x m (pre.map (·.1.1))).1] ∧ BlkP W (w.heap.size + 1) 5 (bytes (putState x m (pre.map (·.1.1))).2).toArray ∧ BlkP W (w.heap.size + 1 + 1) 53 #[Value.slice (some { block := w.heap.size + 1, off := 0 }) m m]) ∧ Below w.heap.size w W)
    (fun _ _ _ => False)
    (OwnFrom.and (Own.from (fun s A B row hs hg hr => ⟨hs.1.kept hg hr, hs.2.1.kept hg hr, hs.2.2.kept hg hr⟩) _) (ownFrom_below (Nat.le_refl _) (by omega)))
    (fun _ _ _ _ _ hs _ _ => hs)
    ⟨⟨B0, B1, B2⟩, hB⟩
    (fun y => { tmps := #[Value.int IntKind.i64 x, Value.int IntKind.i64 ↑m, Value.pointer (some { block := w.heap.size, off := 0 }),
          undef, Value.slice none 0 0, Value.pointer (some { block := w.heap.size + 1 + 1, off := 0 }), Value.int IntKind.i64 (y.1.1 : Int),
          Value.int IntKind.i64 ↑m, Value.int IntKind.i64 ↑m, Value.int IntKind.i64 ↑m, Value.int IntKind.i64 ↑m,
          Value.slice (some { block := w.heap.size + 1, off := 0 }) m m,
          Value.slice (some { block := w.heap.size + 1, off := 0 }) m m,
          Value.func (Fn.func 219) #[] #[Value.pointer (some { block := w.heap.size + 1 + 1 + 1, off := 0 })], Value.int IntKind.i64 (y.1.1 : Int),
          Value.int IntKind.u8 y.2, undef, undef, undef, undef, undef, undef, undef, undef], defers := [] }) ?assign ?body ?done ?stop
  case assign =>
    intro l y W K hK
    simp only [backEnc]
    gi_wp2
    exact hK
  case body =>
    rintro l pre ⟨⟨i, hi⟩, y⟩ W ⟨⟨C0, C1, C2⟩, hBW⟩ _
    have hbd := putState_bd x m (pre.map (·.1.1)) hx1 hx2
    have hsl := putState_len x m (pre.map (·.1.1))
    generalize hst : putState x m (pre.map (·.1.1)) = st at *
    have c0 : W.cell? ⟨w.heap.size, 0, none⟩ = some (.int .i64 st.1) := C0.cell 0
    have f0 := C0.frozen 0
    have c2 : W.cell? ⟨w.heap.size + 1 + 1, 0, none⟩ = some (Value.slice (some { block := w.heap.size + 1, off := 0 }) m m) := C2.cell 0
    obtain ⟨u1, c1⟩ : ∃ u, W.cell? ⟨w.heap.size + 1, i, none⟩ = some u := ⟨_, by rw [C1.cell i]; simp only [List.getElem?_toArray, bytes, List.getElem?_map]; rw [List.getElem?_eq_getElem (by omega)]; rfl⟩
    have f1 := C1.frozen i
    have HS := Lib.hid hst
    have HZ := Lib.hid hsl
    clear hst hsl
    gi_wp2
    have hbt : ((bt st.1 0).toNat : Int) = st.1 % 256 := bt_zero _
    refine ⟨(KeepsOthers.setCell W _ _).trans (KeepsOthers.setCell _ _ _), ⟨fun v hv => ?_, fun j hj ⟨v, hv⟩ => ?_⟩, ⟨?_, ?_, ?_⟩, ?_⟩
    · rw [World.cell?_setCell_other _ _ _ _ (by simp), World.cell?_setCell_other _ _ _ _ (by simp)]
      exact hv
    · rw [World.cell?_setCell_other _ _ _ _ (by simp)]
      by_cases e : i = j
      · subst e
        exact ⟨_, World.cell?_setCell_same _ _ _ c1⟩
      · exact ⟨v, by rw [World.cell?_setCell_other _ _ _ _ (by simp)]; exact hv⟩
    · rw [List.map_append, List.map_cons, List.map_nil, putState_snoc, HS.out]
      exact (C0.far (p := ⟨w.heap.size + 1, i, none⟩) (by simp) _).set_ 0 _
    · rw [List.map_append, List.map_cons, List.map_nil, putState_snoc, HS.out]
      have h := (C1.set_ i (.int .u8 (st.1 % 256))).far (p := ⟨w.heap.size, 0, none⟩) (by simp) (.int .i64 (st.1 / 256))
      have e : (bytes st.2).toArray.setIfInBounds i (.int .u8 (st.1 % 256)) = (bytes (putStep st i).2).toArray := by
        rw [List.setIfInBounds_toArray, putStep, bytes_set, hbt]
      rw [e] at h
      exact h
    · exact (C2.far (p := ⟨w.heap.size + 1, i, none⟩) (by simp) _).far (p := ⟨w.heap.size, 0, none⟩) (by simp; omega) _
    · exact (hBW.setCell (p := ⟨w.heap.size + 1, i, none⟩) (by simp) _).setCell (p := ⟨w.heap.size, 0, none⟩) (by simp) _
  case done =>
    rintro D ys W hD hys ⟨⟨C0, C1, C2⟩, hBW⟩ hK
    rw [hys, putState_puts] at C1
    have c2 : W.cell? ⟨w.heap.size + 1 + 1, 0, none⟩ = some (Value.slice (some { block := w.heap.size + 1, off := 0 }) m m) := C2.cell 0
    clear hys C0
    gi_wp2
    refine ⟨by simp, .inl ⟨_, _, rfl, run_takeDeferred hK, ?_⟩⟩
    have hne : w.heap.size + 1 ≠ D := by omega
    have C1' : BlkP (W.putObj D (.deferred none)) (w.heap.size + 1) 5 (bytes (puts x m)).toArray := (World.putObj_heap_other hne).trans C1
    exact ⟨_, results_tmp rfl _ _ _, _, rfl, C1'.own (by omega) (by rw [bytes_length, puts_length]) (by simp only [maxLen]; omega), Below.trans hBW (belowK_b (w := w) (Nat.le_refl _) W D _ _ (by omega) hK rfl rfl)⟩
  case stop =>
    rintro D c pre W _ _ h _
    exact h.elim
theorem put_any (x size : Int) (m : Nat) (hm : m ≤ 8) (hs : size = (m : Int)) (w : World) (hx1 : -9223372036854775808 ≤ x) (hx2 : x ≤ 9223372036854775807) :
    Calls Tryz.prog 147 #[.int .i64 x, .int .i64 size] w fun e W' => ∃ v, e = .returned v ∧ W'.ownsRow w.heap.size 5 1 v m (bytes (puts x m)) ∧ Ext w W' :=
  (callsIn_wide (n := 3)).1 (put_in Fence.wide 3 trivial trivial trivial rfl (Nat.le_refl _) x size m hm hs w hx1 hx2)
end Go.Proofs.YtckaneapjpiocaaGreatDoor
