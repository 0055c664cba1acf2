/- The texts Cmt in one file. -/
import Derived.Test.YtfongpdeflfioaaGreatS16
import Derived.Test.YtfongpdeflfioaaGreatS18
import Derived.Test.YtfongpdeflfioaaGreatS2
/- store.Commit. -/
namespace Go.Proofs.YtfongpdeflfioaaGreat
open Go.RowKit Go.Maps Go.Sort Go.Shelf
set_option linter.unusedVariables false
set_option linter.unusedSimpArgs false
theorem Heap.four {w w' : World} {cs ds es fs : Array Value} {t u x y : TypeId} (hw : (((w.alloc (.cells cs t)).alloc (.cells ds u)).alloc (.cells es x)).alloc (.cells fs y) = w') : Heap w [.box (w.heap.size + 1 + 1 + 1) fs.toList, .box (w.heap.size + 1 + 1) es.toList, .box (w.heap.size + 1) ds.toList, .box w.heap.size cs.toList] w' := by
  have h := (Heap.three (w := w) (cs := cs) (ds := ds) (es := es) (t := t) (u := u) (x := x) rfl).allocE hw
  simpa using h
theorem Heap.sub' {w0 w : World} {its its' : List It} (H : Heap w0 its w) (f : Nat → Nat) (hf : ∀ i j, f i = f j → i = j) (h : ∀ i x, its'[i]? = some x → its[f i]? = some x) : Heap w0 its' w :=
  ⟨H.ext, fun i x hx => H.all (f i) x (h i x hx), fun i j x y k hij hx hy => H.apart (f i) (f j) x y k (fun e => hij (hf i j e)) (h i x hx) (h j y hy)⟩
theorem Heap.pick {w0 w : World} {its its' : List It} (H : Heap w0 its w) (p : List Nat) (hp : p.Nodup) (hv : p.all (fun i => decide (i < its.length)) = true) (h : its' = p.filterMap fun i => its[i]?) : Heap w0 its' w := by
  have hv' : ∀ i ∈ p, i < its.length := fun i hi => by simpa using List.all_eq_true.1 hv i hi
  have hl : ∀ (p : List Nat), (∀ i ∈ p, i < its.length) → ∀ i : Nat, (p.filterMap fun i => its[i]?)[i]? = p[i]?.bind fun j => its[j]? := by
    intro p
    induction p with
    | nil => intro _ i; simp
    | cons a p ih =>
      intro hq i
      have ha := hq a (List.mem_cons_self ..)
      rw [List.filterMap_cons, List.getElem?_eq_getElem ha]
      cases i with
      | zero => simp [List.getElem?_eq_getElem ha]
      | succ i => simpa using ih (fun j hj => hq j (List.mem_cons_of_mem _ hj)) i
  subst h
  refine H.sub' (fun i => match p[i]? with | some j => j | none => its.length + i) (fun i j e => ?_) fun i x hx => ?_
  · (try dsimp only at e)
    cases hi : p[i]? with
    | none =>
      cases hj : p[j]? with
      | none => rw [hi, hj] at e; dsimp only at e; omega
      | some b => rw [hi, hj] at e; dsimp only at e; have := hv' b (List.mem_of_getElem? hj); omega
    | some a =>
      cases hj : p[j]? with
      | none => rw [hi, hj] at e; dsimp only at e; have := hv' a (List.mem_of_getElem? hi); omega
      | some b =>
        rw [hi, hj] at e
        dsimp only at e
        subst e
        obtain ⟨h1, h2⟩ := List.getElem?_eq_some_iff.1 hi
        obtain ⟨h3, h4⟩ := List.getElem?_eq_some_iff.1 hj
        rcases Nat.lt_trichotomy i j with h5 | h5 | h5
        · exact absurd (h2.trans h4.symm) (List.pairwise_iff_getElem.1 hp i j h1 h3 h5)
        · exact h5
        · exact absurd (h4.trans h2.symm) (List.pairwise_iff_getElem.1 hp j i h3 h1 h5)
  · rw [hl p hv'] at hx
    cases hi : p[i]? with
    | none => rw [hi] at hx; cases hx
    | some a => rw [hi] at hx; exact hx
def acAbs (a : Ac) : Bool × Int × List UInt8 := (a.flush, a.pos, a.data.xs)
abbrev PlSt := List Int × List (Bool × Int × List UInt8) × List (ByteArray × List UInt8 × List Int)
def plStep (s : Sto) (st : PlSt) (x : Ob) : Option PlSt :=
  if (keptO s.objs.xs x.key x.data.xs).isSome = true then some (st.1, st.2.1, st.2.2 ++ [(x.key, x.data.xs, keptL s.objs.xs x.key x.data.xs)])
  else if cntP x.data.n ≤ st.1.length then some (st.1.drop (cntP x.data.n), st.2.1 ++ List.zipWith (fun y p => (false, y, p)) (st.1.take (cntP x.data.n)) (cutB x.data.xs), st.2.2 ++ [(x.key, x.data.xs, st.1.take (cntP x.data.n))])
  else none
def plAll (s : Sto) (l : List Ob) : Option PlSt := l.foldl (fun o x => o.bind fun st => plStep s st x) (some (freeL (s.dev.secs.n : Int) (usedL s), [], []))
theorem plAll_snoc (s : Sto) (l : List Ob) (x : Ob) : plAll s (l ++ [x]) = (plAll s l).bind fun st => plStep s st x := by simp [plAll]
theorem plStep_kept {s : Sto} {st : PlSt} {x : Ob} (h : (keptO s.objs.xs x.key x.data.xs).isSome = true) : plStep s st x = some (st.1, st.2.1, st.2.2 ++ [(x.key, x.data.xs, keptL s.objs.xs x.key x.data.xs)]) := by rw [plStep, if_pos h]
theorem plStep_put {s : Sto} {st : PlSt} {x : Ob} (h : (keptO s.objs.xs x.key x.data.xs).isSome = false) (hr : cntP x.data.n ≤ st.1.length) : plStep s st x = some (st.1.drop (cntP x.data.n), st.2.1 ++ List.zipWith (fun y p => (false, y, p)) (st.1.take (cntP x.data.n)) (cutB x.data.xs), st.2.2 ++ [(x.key, x.data.xs, st.1.take (cntP x.data.n))]) := by
  rw [plStep, if_neg (by rw [h]; decide), if_pos hr]
theorem plStep_none {s : Sto} {st : PlSt} {x : Ob} (h : (keptO s.objs.xs x.key x.data.xs).isSome = false) (hr : st.1.length < cntP x.data.n) : plStep s st x = none := by
  rw [plStep, if_neg (by rw [h]; decide), if_neg (by omega)]
theorem plAll_none {s : Sto} {l : List Ob} {k : Nat} (h : plAll s (l.take k) = none) : plAll s l = none := by
  have e : ∀ b : List Ob, b.foldl (fun o x => o.bind fun st => plStep s st x) none = none := fun b => by
    induction b with
    | nil => rfl
    | cons x b ih => exact ih
  rw [plAll] at h ⊢
  conv => lhs; rw [← List.take_append_drop k l]
  rw [List.foldl_append, h]
  exact e _
structure AcIn (L : RdL) (N : Nat) (a : Ac) : Prop where
  fl : a.flush = false
  lo : 0 ≤ a.pos
  hi : a.pos < (N : Int)
  inb : InBag L a.data
  n64 : a.data.n = 64
theorem AcIn.more {L L2 : RdL} {N : Nat} {a : Ac} (h : AcIn L N a) (hL : ∀ q ∈ L, q ∈ L2) : AcIn L2 N a := ⟨h.fl, h.lo, h.hi, ⟨h.inb.len, h.inb.le, h.inb.cap, hL _ h.inb.mem⟩, h.n64⟩
structure ObIn (L : RdL) (o : Ob) : Prop where
  key : o.key.size ≤ maxLen
  data : InBag L o.data
  len : o.locs.n = o.locs.xs.length
  le : o.locs.n ≤ o.locs.c
  cap : o.locs.c ≤ maxLen
  mem : (o.locs.A, ints o.locs.xs) ∈ L
  wf : ∀ y ∈ o.locs.xs, (Lit.int .i64 y).wf = true
theorem ObIn.more {L L2 : RdL} {o : Ob} (h : ObIn L o) (hL : ∀ q ∈ L, q ∈ L2) : ObIn L2 o := ⟨h.key, ⟨h.data.len, h.data.le, h.data.cap, hL _ h.data.mem⟩, h.len, h.le, h.cap, hL _ h.mem, h.wf⟩
theorem ObIn.at_ {w0 w : World} {its : List It} {j : Nat} {S : Nat → Prop} {L : RdL} {o : Ob} (h : ObIn L o) (H : Heap w0 its w) (hj : its[j]? = some (It.bag S L)) : Ob.At w w0.heap.size w.heap.size o :=
  ⟨h.key, h.data.at_ H hj, ⟨h.len, h.le, h.cap, by rw [ints_flat]; exact H.bagRd hj h.mem, h.wf⟩⟩
theorem putA_abs : ∀ (ys : List Int) (ps : List Oct), (putA ys ps).map acAbs = List.zipWith (fun y p => (false, y, p)) ys (ps.map (·.xs))
  | [], _ => rfl
  | _ :: _, [] => rfl
  | y :: ys, p :: ps => by
    have h := putA_abs ys ps
    rw [putA] at h ⊢
    rw [List.zipWith_cons_cons, List.map_cons, h]
    rfl
theorem putA_in {L : RdL} {N : Nat} {ys : List Int} {ps : List Oct} (hy : ∀ y ∈ ys, 0 ≤ y ∧ y < (N : Int)) (hp : ∀ p ∈ ps, InBag L p ∧ p.n = 64) : ∀ a ∈ putA ys ps, AcIn L N a := fun a ha => by
  rw [putA] at ha
  obtain ⟨i, hi, rfl⟩ := List.getElem_of_mem ha
  have hi2 := hi
  rw [List.length_zipWith] at hi2
  rw [List.getElem_zipWith]
  have h1 := hy (ys[i]'(by omega)) (List.getElem_mem _)
  have h2 := hp (ps[i]'(by omega)) (List.getElem_mem _)
  exact ⟨rfl, h1.1, h1.2, h2.1, h2.2⟩
theorem chB_length (b : List UInt8) (ys : List Int) : (chB b ys).length = cntP b.length := by rw [chB, List.length_map, List.length_range]
theorem chB_len64 {b : List UInt8} {ys : List Int} {p : List UInt8} (h : p ∈ chB b ys) : p.length = 64 := by
  rw [chB] at h
  obtain ⟨k, _, rfl⟩ := List.mem_map.1 h
  exact pgB_len _ _ (partO_len _ _)
def plIdx (st : PlSt) (l : List Ob) : Option (List Int × List (Bool × Int × List UInt8)) :=
  if l = [] then some ([], st.2.1)
  else if cntP (wB (idxS st.2.2)).length ≤ st.1.length then some (st.1.take (cntP (wB (idxS st.2.2)).length), st.2.1 ++ List.zipWith (fun y p => (false, y, p)) (st.1.take (cntP (wB (idxS st.2.2)).length)) (chB (wB (idxS st.2.2)) (st.1.take (cntP (wB (idxS st.2.2)).length))))
  else none
def noRoom (s : Sto) (l : List Ob) : Prop := ∀ st, plAll s l = some st → plIdx st l = none
def cmUb (s : Sto) (l : List Ob) (ix : List Int) : Ub := ⟨s.ub.txg + 1, ix.getD 0 0, (l.length : Int)⟩
def cmActs (u : Ub) (a : List (Bool × Int × List UInt8)) : List (Bool × Int × List UInt8) := a ++ [(true, 0, []), (false, u.txg % 2, ueB u), (true, 0, [])]
def stepS (st : List (List UInt8) × List (Int × List UInt8)) (a : Bool × Int × List UInt8) : List (List UInt8) × List (Int × List UInt8) :=
  if a.1 = true then (setV (fun _ => true) st.2 st.1 st.2.length, []) else (st.1, st.2 ++ [(a.2.1, a.2.2)])
theorem doV_abs (l : List Ac) (st : List (List UInt8) × List (Int × List UInt8)) : doV l st = (l.map acAbs).foldl stepS st := by
  rw [doV, List.foldl_map]; rfl
theorem kept_is (w : World) (s : Sto) (x : Ob) (h : Sto.At w 0 w.heap.size s) (hx : Ob.At w 0 w.heap.size x) (hl : ∀ o ∈ s.objs.xs, o.locs.n ≤ 10000000) (b : Bool) (hb : (keptO s.objs.xs x.key x.data.xs).isSome = b) : Calls Tryz.prog 54 #[.agg s.cells.toArray, .agg x.cells.toArray] w fun e w' => ∃ A c, e = .returned (.tuple #[.slice A (keptL s.objs.xs x.key x.data.xs).length c, .bool b]) ∧ w'.ownsRow w.heap.size 3 1 (.slice A (keptL s.objs.xs x.key x.data.xs).length c) (keptL s.objs.xs x.key x.data.xs).length (ints (keptL s.objs.xs x.key x.data.xs)) ∧ Ext w w' := by
  refine (kept_any w s x h hx hl).mono ?_
  rintro e w' ⟨A, c, rfl, h1, h2⟩
  exact ⟨A, c, by rw [hb], h1, h2⟩
def szz (x : ByteArray × List UInt8 × List Int) : ByteArray × List UInt8 × Nat := (x.1, x.2.1, x.2.2.length)
theorem kept_len {s : Sto} {w : World} {lo hi : Nat} (h : Sto.At w lo hi s) (h0 : sCk s = 0) {x : Ob} (hx : x.data.n = x.data.xs.length) (hk : (keptO s.objs.xs x.key x.data.xs).isSome = true) : (keptL s.objs.xs x.key x.data.xs).length = cntP x.data.n := by
  obtain ⟨o, ho⟩ := Option.isSome_iff_exists.1 hk
  have h1 : sameB x.key x.data.xs o = true := List.find?_some ho
  have h2 : o ∈ s.objs.xs := List.mem_of_find?_eq_some ho
  unfold sameB at h1
  simp only [Bool.and_eq_true, decide_eq_true_eq] at h1
  have hg : sOk s = true := by unfold sCk at h0; split at h0; assumption; cases h0
  unfold sOk at hg
  simp only [Bool.and_eq_true, decide_eq_true_eq] at hg
  have hob := hg.1.1.2
  unfold objOk at hob
  simp only [Bool.and_eq_true, decide_eq_true_eq, Bool.not_eq_true'] at hob
  have hq : oddB o = false := by
    cases hb : oddB o
    · rfl
    · have := hob.2; rw [List.any_eq_true.2 ⟨o, h2, hb⟩] at this; cases this
  unfold oddB at hq
  simp at hq
  rw [keptL, ho]
  show o.locs.xs.length = _
  rw [← (h.objs.all o h2).locs.len, hq.2, (h.objs.all o h2).data.len, h1.2, hx]
theorem plAll_szz {s : Sto} {w : World} {lo hi : Nat} (h : Sto.At w lo hi s) (h0 : sCk s = 0) {l : List Ob} (hl : ∀ x ∈ l, x.data.n = x.data.xs.length) : ∀ k, k ≤ l.length → ∀ st, plAll s (l.take k) = some st → st.2.2.map szz = (plcS (l.take k)).map szz
  | 0, _, st, e => by
    have : st = (freeL (s.dev.secs.n : Int) (usedL s), [], []) := (Option.some.inj e).symm
    rw [this]; rfl
  | k + 1, hk, st, e => by
    rw [List.take_succ_eq_append_getElem (by omega), plAll_snoc] at e
    obtain ⟨st0, h1, h2⟩ := Option.bind_eq_some_iff.1 e
    have h3 := plAll_szz h h0 hl k (by omega) st0 h1
    have hxl := hl l[k] (List.getElem_mem _)
    rw [List.take_succ_eq_append_getElem (by omega), plcS, List.map_append, List.map_append]
    rw [plcS] at h3
    unfold plStep at h2
    split at h2
    · rename_i hk1
      cases h2
      rw [List.map_append, h3]
      simp [szz, kept_len h h0 hxl hk1]
    · split at h2
      · rename_i hk2
        cases h2
        rw [List.map_append, h3]
        simp [szz]
        omega
      · cases h2
theorem idxS_sizes : ∀ (a b : List (ByteArray × List UInt8 × List Int)), a.map szz = b.map szz → (idxS a).map ByteArray.size = (idxS b).map ByteArray.size
  | [], [], _ => rfl
  | [], _ :: _, h => by cases h
  | _ :: _, [], h => by cases h
  | x :: a, y :: b, h => by
    rw [List.map_cons, List.map_cons] at h
    injection h with h1 h2
    have ih := idxS_sizes a b h2
    simp only [szz, Prod.mk.injEq] at h1
    obtain ⟨e1, e2, e3⟩ := h1
    have e4 : (ByteArray.mk (numsO x.2.2).toArray).size = (ByteArray.mk (numsO y.2.2).toArray).size := by
      show (numsO x.2.2).toArray.size = (numsO y.2.2).toArray.size
      simp [numsO_len, e3]
    rw [idxS] at ih ⊢
    rw [idxS] at ih ⊢
    rw [List.flatMap_cons, List.flatMap_cons, List.map_append, List.map_append, ih]
    simp [e1, e2, e4]
theorem flat_len (l : List ByteArray) : (flat l).length = 2 + (l.map fun s => 3 + s.size).sum := by
  rw [flat, List.length_append, puts_length]
  congr 1
  induction l with
  | nil => rfl
  | cons x l ih =>
    rw [List.flatMap_cons, List.length_append, List.map_cons, List.sum_cons, ih]
    simp [one, puts_length]
theorem wE_sizes {a b : List ByteArray} (h : a.map ByteArray.size = b.map ByteArray.size) : wE a = wE b ∧ (wB a).length = (wB b).length := by
  have h1 : a.length = b.length := by have := congrArg List.length h; simpa using this
  have h2 : a.any longB = b.any longB := by
    have e : ∀ l : List ByteArray, l.any longB = (l.map ByteArray.size).any fun n => decide (65536 < n) := fun l => by rw [List.any_map]; rfl
    rw [e, e, h]
  have h3 : wE a = wE b := by unfold wE; rw [h1, h2]
  refine ⟨h3, ?_⟩
  unfold wB
  rw [h3]
  split
  · rw [flat_len, flat_len]
    have e : ∀ l : List ByteArray, (l.map fun s => 3 + s.size) = (l.map ByteArray.size).map fun n => 3 + n := fun l => by rw [List.map_map]; rfl
    rw [e, e, h]
  · rfl
theorem wB_two {l : List ByteArray} (h : wE l = 0) : 2 ≤ (wB l).length := by
  unfold wB
  rw [if_pos h, flat_len]
  omega
theorem cmUb_ok {t : Int} {n N : Nat} {ys : List Int} (h1 : 1 ≤ t) (h2 : t < 1099511627776) (hn : n ≤ 256) (hN : N ≤ 8192) (h3 : n = 0 ∧ ys = [] ∨ 0 < n ∧ 1 ≤ ys.length) (h4 : ∀ y ∈ ys, 2 ≤ y ∧ y < (N : Int)) : ubE ⟨t + 1, ys.getD 0 0, (n : Int)⟩ = 0 ∧ Ub.wf ⟨t + 1, ys.getD 0 0, (n : Int)⟩ := by
  have h5 : (n = 0 ∧ ys.getD 0 0 = 0) ∨ (0 < n ∧ 2 ≤ ys.getD 0 0 ∧ ys.getD 0 0 < 8192) := by
    rcases h3 with ⟨h, rfl⟩ | ⟨h, h6⟩
    · exact .inl ⟨h, rfl⟩
    · cases ys with
      | nil => simp at h6
      | cons y ys =>
        have := h4 y (List.mem_cons_self ..)
        exact .inr ⟨h, this.1, by show y < 8192; omega⟩
  constructor
  · unfold ubE
    dsimp only
    rw [if_neg (by omega)]
  · constructor <;> dsimp only <;> omega
structure CmYes (w : World) (s : Sto) (l : List Ob) (nx : Sto) (acts : List Ac) (w' : World) : Prop where
  chk : sCk s = 0
  right : rtE s l = 0
  placed : ∃ st ix ia, plAll s l = some st ∧ plIdx st l = some (ix, ia) ∧ nx.objs.xs.map strip = st.2.2 ∧ nx.idx.xs = ix ∧ nx.ub = cmUb s l ix ∧ acts.map acAbs = cmActs nx.ub ia
  secs : (nx.dev.secv, nx.dev.wv) = doV acts (s.dev.secv, s.dev.wv)
  secn : nx.dev.secs.n = s.dev.secs.n
  at_ : Sto.At w' w.heap.size w'.heap.size nx
  ext : Ext w w'
def CmOut (w : World) (s : Sto) (l : List Ob) (e : Ending) (w' : World) : Prop :=
  (∃ E : Int, (sCk s ≠ 0 ∧ E = 9 ∨ sCk s = 0 ∧ rtE s l ≠ 0 ∧ E = rtE s l ∨ sCk s = 0 ∧ rtE s l = 0 ∧ E = 17 ∧ noRoom s l) ∧ e = .returned (.tuple #[.agg zSto.toArray, .slice none 0 0, .int .i64 E]) ∧ Ext w w') ∨
  (∃ nx acts A c, e = .returned (.tuple #[.agg nx.cells.toArray, .slice A acts.length c, .int .i64 0]) ∧ acts.length ≤ c ∧ c ≤ maxLen ∧ Acs w' A acts.length c acts ∧ CmYes w s l nx acts w')
set_option maxRecDepth 100000 in
set_option maxHeartbeats 8000000 in
theorem commit_any (w : World) (s : Sto) (l : Sl Ob) (h : Sto.At w 0 w.heap.size s) (hs : s.small) (hl : Sl.At w 0 w.heap.size Ob.cells (Ob.At w 0 w.heap.size) l) : Calls Tryz.prog 20 #[.agg s.cells.toArray, l.val] w (CmOut w s l.xs) := by
  have on := fun W (hW : Ext w W) => Sto.At.on h hW (Nat.le_refl _)
  have onl := fun W (hW : Ext w W) => show Sl.At W 0 W.heap.size Ob.cells (Ob.At W 0 W.heap.size) l from Sl.At.imp hl (rd_on hW (Nat.le_refl _) _ _) (fun x hx => Ob.At.on hx hW (Nat.le_refl _))
  have HC := Lib.hid (fun W (hW : Ext w W) => scheck_any W s (on W hW) hs)
  have HRt := Lib.hid (fun W (hW : Ext w W) => right_any W s l (onl W hW))
  have HA := Lib.hid h
  have HL := Lib.hid hl
  by_cases h0 : sCk s = 0
  · by_cases h1 : rtE s l.xs = 0
    · have hg : sOk s = true := by unfold sCk at h0; split at h0; assumption; cases h0
      unfold sOk at hg
      simp only [Bool.and_eq_true, decide_eq_true_eq] at hg
      obtain ⟨⟨⟨hhd, hob⟩, hsp⟩, _⟩ := hg
      unfold headOk at hhd
      simp only [Bool.and_eq_true, decide_eq_true_eq] at hhd
      obtain ⟨⟨hck, hub⟩, hwt⟩ := hhd
      have HCk := Lib.hid hck
      have HUb := Lib.hid hub
      have HWt := Lib.hid hwt
      have hut : 1 ≤ s.ub.txg ∧ s.ub.txg ≤ 1099511627776 := by
        unfold ubE at hub
        split at hub
        · cases hub
        · omega
      have HUs := Lib.hid (fun W (hW : Ext w W) => used_any W s (on W hW) hs.used)
      obtain ⟨_, ht2, ht8, hall, hul⟩ := spE_uni _ _ hsp
      have HFr := Lib.hid (fun W A c (hr : Rd W 0 W.heap.size A (ints (usedL s))) (hc : (usedL s).length ≤ c) (hm : c ≤ maxLen) => show Calls Tryz.prog 36 #[.int .i64 (s.dev.secs.n : Int), .slice A (usedL s).length c] W (FrOut W 0 (freeL (s.dev.secs.n : Int) (usedL s))) from by
        have hf := spfree_any W (s.dev.secs.n : Int) ⟨A, (usedL s).length, c, usedL s⟩ ⟨rfl, hc, hm, by rw [ints_flat]; exact hr, fun y hy => by
          rcases List.mem_append.1 hy with hy | hy
          · exact HA.out.idx.all y hy
          · obtain ⟨x, hx, hy⟩ := List.mem_flatMap.1 hy
            exact (HA.out.objs.all x hx).locs.all y hy⟩ hs.used
        rw [show spE (s.dev.secs.n : Int) (⟨A, (usedL s).length, c, usedL s⟩ : Loc).xs = 0 from hsp] at hf
        exact hf)
      have HFm := Lib.hid (fun y (hy : y ∈ freeL (s.dev.secs.n : Int) (usedL s)) => show 2 ≤ y ∧ y < (s.dev.secs.n : Int) by
        have := (mem_freeL ht2).1 hy
        omega)
      have HFl := Lib.hid (show (freeL (s.dev.secs.n : Int) (usedL s)).length ≤ 8192 by
        have := foldDel_len (usedL s) (upI ((s.dev.secs.n : Int) - 2).toNat)
        rw [upI_len] at this
        unfold freeL
        omega)
      have HKp := Lib.hid (fun W (hW : Ext w W) (x : Ob) (hx : Ob.At W 0 W.heap.size x) (b : Bool) (hb : (keptO s.objs.xs x.key x.data.xs).isSome = b) => kept_is W s x (on W hW) hx hs.locs b hb)
      have HKw := Lib.hid (fun (x : Ob) y (hy : y ∈ keptL s.objs.xs x.key x.data.xs) => show (Lit.int .i64 y).wf = true by
        unfold keptL at hy
        cases hko : keptO s.objs.xs x.key x.data.xs with
        | none => rw [hko] at hy; cases hy
        | some o => rw [hko] at hy; exact (HA.out.objs.all o (List.mem_of_find?_eq_some hko)).locs.all y hy)
      have HPl := Lib.hid (show plAll s l.xs = l.xs.foldl (fun o x => o.bind fun st => plStep s st x) (some (freeL (s.dev.secs.n : Int) (usedL s), [], [])) from rfl)
      rw [h0] at HC
      rw [h1] at HRt
      have H01 := Lib.hid (⟨h0, h1⟩ : sCk s = 0 ∧ rtE s l.xs = 0)
      have HOut := Lib.hid (fun e w' => show _ → CmOut w s l.xs e w' from fun hh => hh)
      have HP0 := Lib.hid (show plAll s (l.xs.take 0) = some (freeL (s.dev.secs.n : Int) (usedL s), [], []) from rfl)
      have HPS := Lib.hid (fun (k : Nat) (hk : k < l.xs.length) => show plAll s (l.xs.take (k + 1)) = (plAll s (l.xs.take k)).bind fun st => plStep s st l.xs[k] by rw [List.take_succ_eq_append_getElem hk, plAll_snoc])
      have HPn := Lib.hid (show plAll s (l.xs.take l.xs.length) = plAll s l.xs by rw [List.take_length])
      have hn256 : l.n ≤ 256 := by
        rw [hl.len]
        rcases Nat.lt_or_ge 256 l.xs.length with h5 | h5
        · unfold rtE at h1; rw [if_pos h5] at h1; cases h1
        · exact h5
      have hdn : s.dev.secs.n ≤ 8192 := by omega
      have hd2 : 2 ≤ s.dev.secs.n := by omega
      have hr3 : l.xs.any longD = false ∧ wE (idxS (plcS l.xs)) = 0 ∧ (wB (idxS (plcS l.xs))).length ≤ 65536 ∧ s.ub.txg < 1099511627776 := by
        unfold rtE at h1
        split at h1
        · cases h1
        · split at h1
          · cases h1
          · split at h1
            · cases h1
            · rename_i _ _ q3
              split at h1
              · cases h1
              · rename_i q4
                split at h1
                · cases h1
                · rename_i q5
                  exact ⟨by simpa using q3, by
                    rcases Classical.em (wE (idxS (plcS l.xs)) = 0) with h | h
                    · exact h
                    · exact absurd (.inl h) q4, by
                    rcases Nat.lt_or_ge 65536 (wB (idxS (plcS l.xs))).length with h | h
                    · exact absurd (.inr h) q4
                    · exact h, by omega⟩
      have HDl := Lib.hid (fun x (hx : x ∈ l.xs) => show x.data.n ≤ 65536 by
        cases hb : longD x
        · simpa [longD] using hb
        · have := hr3.1; rw [List.any_eq_true.2 ⟨x, hx, hb⟩] at this; cases this)
      have HIdx := Lib.hid hr3.2
      have HSz := Lib.hid (fun (st : PlSt) (e : plAll s l.xs = some st) => show wE (idxS st.2.2) = 0 ∧ 2 ≤ (wB (idxS st.2.2)).length ∧ (wB (idxS st.2.2)).length ≤ 65536 ∧ ∀ o ∈ st.2.2, o.2.2.length ≤ 65536 by
        have h6 := plAll_szz h h0 (fun x hx => (hl.all x hx).data.len) l.xs.length (Nat.le_refl _) st (by rw [List.take_length]; exact e)
        rw [List.take_length] at h6
        have h7 := wE_sizes (idxS_sizes _ _ h6)
        have h8 : wE (idxS st.2.2) = 0 := h7.1.trans hr3.2.1
        refine ⟨h8, wB_two h8, by rw [h7.2]; exact hr3.2.2.1, fun o ho => ?_⟩
        obtain ⟨p, hp, e2⟩ := List.mem_map.1 (h6 ▸ List.mem_map_of_mem (f := szz) ho)
        obtain ⟨x, hx, rfl⟩ := List.mem_map.1 hp
        have h9 := HDl.out x hx
        simp only [szz, Prod.mk.injEq, List.length_replicate] at e2
        rw [← e2.2.2]
        unfold cntP
        omega)
      have htx := hr3.2.2.2
      clear hr3
      generalize hF : freeL (s.dev.secs.n : Int) (usedL s) = F at *
      generalize husd : usedL s = U at *
      clear on onl h hs hl h0 h1 hob hsp hck hub hwt ht2 ht8 hall hul hF husd HPl
      obtain ⟨⟨⟨sA, sn, sc, sx⟩, ⟨qA, qn, qc, qx⟩⟩, ⟨ut, uf, uo⟩, ⟨oA, on, oc, ox⟩, ⟨iA, im, ic, ix⟩⟩ := s
      obtain ⟨lA, n, lc, xs⟩ := l
      simp only [Sto.cells, Sl.val] at *
      have hmf : ∀ (fn : Fn) (first cap : Array Value) (w : World), (Instr.makeFunc fn first cap).run Tryz.prog w = .ok (.func fn first cap) w := fun _ _ _ _ => rfl
      go_enter_defers Tryz.func20, Tryz.ntmps20
      go_upto_region 1 with fail
      generalize hwH : World.alloc (World.alloc (World.alloc (World.alloc w _) _) _) _ = w1
      have HH := Lib.hid (Heap.four hwH)
      clear hwH
      obtain ⟨eb, heb⟩ : ∃ b, b = w.heap.size + 1 + 1 + 1 := ⟨_, rfl⟩
      obtain ⟨ab, hab⟩ : ∃ b, b = w.heap.size + 1 + 1 := ⟨_, rfl⟩
      obtain ⟨ob, hob⟩ : ∃ b, b = w.heap.size + 1 := ⟨_, rfl⟩
      obtain ⟨sb, hsb⟩ : ∃ b, b = w.heap.size := ⟨_, rfl⟩
      rw [← heb, ← hab, ← hob, ← hsb] at HH ⊢
      clear heb hab hob hsb
      go_upto_region 8 with (first | (refine shl_load HH.out sizeSto (by kernel_rfl) rfl rfl rfl 3 rfl rfl ?_) | (go_at_call 13; (with_reducible refine (HC.out _ HH.out.ext).mono ?_); rintro e wC ⟨rfl, eC⟩; have HHn := Lib.hid (HH.out.later eC); clear HH eC; have HH := HHn; clear HHn) | (go_at_call 52; (with_reducible refine (HRt.out _ HH.out.ext).mono ?_); rintro e wC ⟨rfl, eC⟩; have HHn := Lib.hid (HH.out.later eC); clear HH eC; have HH := HHn; clear HHn))
      have HHd := Lib.hid HH.out.drew.bag0
      clear HH
      refine wp_noP ?_
      refine wp_region_held_drew (S := Heap w [.box sb [.slice sA sn sc, .slice qA qn qc, .int .i64 ut, .int .i64 uf, .int .i64 uo, .slice oA on oc, .slice iA im ic]]) (by kernel_rfl) (HHd.out.only 4 rfl) (fun hHeld => ?_)
      generalize World.drew _ = wd at *
      refine tS 0 ?_; (try simp only [Act.put, lyA, lyB, lyC])
      refine tS 1 ?_; (try simp only [Act.put, lyA, lyB, lyC])
      refine tG 2 rfl (fun wT hST => sh_run_load1 hST rfl rfl 0 rfl rfl (by kernel_rfl)) hHeld ?_; (try simp only [Act.put, lyA, lyB, lyC])
      refine tS 3 ?_; (try simp only [Act.put, lyA, lyB, lyC])
      refine tG 4 rfl (fun wT hST => sh_run_load hST sizeSto (by kernel_rfl) rfl rfl 0 rfl (Nat.le_of_ble_eq_true rfl)) hHeld ?_; (try simp only [Act.put, lyA, lyB, lyC])
      clear hHeld
      refine oS 5 (fun K hK => ?_)
      go_simp
      refine (HUs.out _ HHd.out.ext).mono ?_
      rintro e w6 ⟨v6, rfl, hown6, e6⟩
      obtain ⟨A6, c6, rfl, k61, k62, _⟩ := own_form hown6
      have HH6 := Lib.hid (HHd.out.addRow e6 hown6)
      clear HHd hown6 e6
      go_wp2_with fail
      refine hK.out _ _ ((HH6).out.only 5 rfl) (fun hHeld => ?_); clear hK K; (try simp only [Act.put, lyA, lyB, lyC]); clear hHeld
      refine oS 6 (fun K hK => ?_)
      go_simp
      refine (HFr.out _ A6 c6 ((HH6.out.rowRd 0 rfl).m0) k61 k62).mono ?_
      rintro e w7 ⟨v7, rfl, hown7, e7⟩
      obtain ⟨fA, fc, rfl, hfc, _, _⟩ := own_form (hown7 rfl)
      obtain ⟨S0, H7⟩ := HH6.out.tail.bagExt (j := 0) rfl e7 (L2 := [(fA, ints F)]) (fun q hq => by
        simp only [List.mem_cons, List.not_mem_nil, or_false] at hq
        subst hq
        exact Rd.of_own (hown7 rfl))
      have HH7 := Lib.hid H7
      clear HH6 hown7 e7 H7
      go_wp2_with fail
      refine hK.out _ _ ((HH7).out.only 4 rfl) (fun hHeld => ?_); clear hK K; (try simp only [Act.put, lyA, lyB, lyC])
      refine tS 7 ?_; (try simp only [Act.put, lyA, lyB, lyC])
      refine tS 8 ?_; (try simp only [Act.put, lyA, lyB, lyC])
      refine tS 10 ?_; (try simp only [Act.put, lyA, lyB, lyC])
      refine tS 9 ?_; (try simp only [Act.put, lyA, lyB, lyC])
      refine tS 11 ?_; (try simp only [Act.put, lyA, lyB, lyC])
      refine wpAnyH_done (by kernel_rfl) ?_ _
      simp only [noP]
      clear hHeld
      have HH := Lib.hid (show Heap w [It.bag S0 [(fA, ints F)], .box eb [.int .i64 0], .box ab [.slice none 0 0], .box ob zSto, .box sb [.slice sA sn sc, .slice qA qn qc, .int .i64 ut, .int .i64 uf, .int .i64 uo, .slice oA on oc, .slice iA im ic]] w7 from HH7.out)
      clear HH7
      go_upto_region 10 with fail
      generalize hwA : World.alloc _ _ = w8
      have HH2 := Lib.hid ((HH.out.allocE hwA).row0 (e := 106) (size := 3))
      clear HH hwA
      have HH := HH2
      clear HH2
      obtain ⟨wb, hwb⟩ : ∃ b, b = w7.heap.size := ⟨_, rfl⟩
      rw [← hwb] at HH ⊢
      clear hwb
      go_upto_region 11 with (first | (refine shl_load1 HH.out rfl rfl rfl 6 rfl rfl (by decide +kernel) ?_) | (refine shl_store (HH.out.alloc _ _) sizeSto rfl rfl rfl rfl 0 rfl rfl rfl rfl ?_; clear HH; intro wS HHS; have HH := Lib.hid HHS; clear HHS))
      obtain ⟨nb, hnb⟩ : ∃ b, b = w8.heap.size := ⟨_, rfl⟩
      rw [← hnb] at HH ⊢
      clear hnb
      have HH2 := Lib.hid (show Heap w (wits wb fA F.length fc none 0 [] S0 [(fA, ints F)] (let pA := none; let pc := 0; (.box nb [.slice none 0 0, .slice none 0 0, .int .i64 (ut + 1), .int .i64 0, .int .i64 (n : Int), .slice pA (([] : List Ob)).length pc, .slice none 0 0] :: .row 35 3 (.slice pA (([] : List Ob)).length pc) (([] : List Ob)).length ((([] : List Ob)).flatMap Ob.cells) :: [.box ob zSto, .box ab [.slice none 0 0], .box eb [.int .i64 0], .box sb [.slice sA sn sc, .slice qA qn qc, .int .i64 ut, .int .i64 uf, .int .i64 uo, .slice oA on oc, .slice iA im ic]]))) wS from (HH.out.row0 (e := 35) (size := 3)).pick [3, 2, 4, 1, 0, 7, 6, 5, 8] (by decide) rfl rfl)
      clear HH
      have HH := HH2
      clear HH2
      have Hn := Lib.hid (show n = xs.length from HL.out.len)
      go_wp2_with fail
      go_loopw [57] (fun v wr => ∃ (k : Nat) (fs : List Int) (fA : Option Addr) (fc : Nat) (aA : Option Addr) (ac : Nat) (acts : List Ac) (S : Nat → Prop) (L : RdL) (os : List Ob) (pA : Option Addr) (pc : Nat), k ≤ n ∧ v = .int .i64 (k : Int) ∧
        Hid (plAll (⟨⟨⟨sA, sn, sc, sx⟩, ⟨qA, qn, qc, qx⟩⟩, ⟨ut, uf, uo⟩, ⟨oA, on, oc, ox⟩, ⟨iA, im, ic, ix⟩⟩ : Sto) (xs.take k) = some (fs, acts.map acAbs, os.map strip)) ∧ fs.length ≤ fc ∧ acts.length + fs.length ≤ 8192 ∧ Hid (os.length = k) ∧ Hid ((fA, ints fs) ∈ L) ∧ Hid (∀ y ∈ fs, 2 ≤ y ∧ y < (sn : Int)) ∧ Hid (∀ a ∈ acts, AcIn L sn a) ∧ Hid (∀ o ∈ os, ObIn L o) ∧
        Hid (Heap w (wits wb fA fs.length fc aA ac acts S L (.box nb [.slice none 0 0, .slice none 0 0, .int .i64 (ut + 1), .int .i64 0, .int .i64 (n : Int), .slice pA (os).length pc, .slice none 0 0] :: .row 35 3 (.slice pA (os).length pc) (os).length ((os).flatMap Ob.cells) :: [.box ob zSto, .box ab [.slice none 0 0], .box eb [.int .i64 0], .box sb [.slice sA sn sc, .slice qA qn qc, .int .i64 ut, .int .i64 uf, .int .i64 uo, .slice oA on oc, .slice iA im ic]])) wr)) (fun v _ => n - (intOf v).toNat)
      case atStart => exact ⟨0, F, fA, fc, none, 0, [], S0, _, [], none, 0, Nat.zero_le _, rfl, Lib.hid HP0.out, hfc, by have := HFl.out; simpa using this, Lib.hid rfl, Lib.hid (List.mem_cons_self ..), HFm, Lib.hid (by simp), Lib.hid (by simp), HH⟩
      case round =>
        clear HH HP0 HFl HFm HFr hfc k61 k62
        obtain ⟨k, fs, fA, fc, aA, ac, acts, S, L, os, pA, pc, hk, rfl, HP, hfc, hal, HOl, HFi, HFm, HAi, HOi, HH⟩ := hrel
        by_cases hlt : k < n
        · have l1 : k < xs.length := by rw [← Hn.out]; exact hlt
          obtain ⟨b1, o1, hlA, hb1, f0, f1, f2⟩ := rd_ob (HL.out.rd.ext HH.out.ext (Nat.le_refl _)) l1
          dsimp only at hlA
          subst hlA
          have HPk := Lib.hid (HPS.out k l1)
          have hdb := HDl.out _ (List.getElem_mem l1)
          have HXA := Lib.hid (HL.out.all _ (List.getElem_mem l1))
          generalize xs[k] = x at *
          have HXe := Lib.hid (show x.data.val = .slice x.data.A x.data.n x.data.c from rfl)
          have HXl := Lib.hid (show x.locs.val = .slice x.locs.A x.locs.n x.locs.c from rfl)
          rw [HXe.out] at f1
          rw [HXl.out] at f2
          go_upto_region 14 with (first | (refine shl_store (HH.out.alloc _ _) sizeOb rfl rfl rfl rfl 0 rfl rfl rfl rfl ?_; clear HH; intro wS HHS; have HH := Lib.hid HHS; clear HHS))
          obtain ⟨tb, htb⟩ : ∃ b, b = wr.heap.size := ⟨_, rfl⟩
          rw [← htb] at HH ⊢
          have HH2 := Lib.hid (show Heap w (wits wb fA fs.length fc aA ac acts S L (.box tb [.string x.key, .slice x.data.A x.data.n x.data.c, .slice x.locs.A x.locs.n x.locs.c] :: (.box nb [.slice none 0 0, .slice none 0 0, .int .i64 (ut + 1), .int .i64 0, .int .i64 (n : Int), .slice pA (os).length pc, .slice none 0 0] :: .row 35 3 (.slice pA (os).length pc) (os).length ((os).flatMap Ob.cells) :: [.box ob zSto, .box ab [.slice none 0 0], .box eb [.int .i64 0], .box sb [.slice sA sn sc, .slice qA qn qc, .int .i64 ut, .int .i64 uf, .int .i64 uo, .slice oA on oc, .slice iA im ic]]))) wS from HH.out.pick [1, 2, 3, 0, 4, 5, 6, 7, 8, 9] (by decide) rfl rfl)
          clear HH htb f0 f1 f2
          have HH := HH2
          clear HH2
          obtain ⟨bq, hbq⟩ : ∃ b, (keptO ox x.key x.data.xs).isSome = b := ⟨_, rfl⟩
          have HK5 := Lib.hid (HKp.out wS HH.out.ext x (Ob.At.on HXA.out HH.out.ext (Nat.le_refl _)) bq hbq)
          have HKx := Lib.hid (HKw.out x)
          have HPs := Lib.hid (fun (st : PlSt) (h : bq = true) => plStep_kept (s := (⟨⟨⟨sA, sn, sc, sx⟩, ⟨qA, qn, qc, qx⟩⟩, ⟨ut, uf, uo⟩, ⟨oA, on, oc, ox⟩, ⟨iA, im, ic, ix⟩⟩ : Sto)) (st := st) (x := x) (hbq.trans h))
          have HPp := Lib.hid (fun (st : PlSt) (h : bq = false) (hr : cntP x.data.n ≤ st.1.length) => plStep_put (s := (⟨⟨⟨sA, sn, sc, sx⟩, ⟨qA, qn, qc, qx⟩⟩, ⟨ut, uf, uo⟩, ⟨oA, on, oc, ox⟩, ⟨iA, im, ic, ix⟩⟩ : Sto)) (st := st) (x := x) (hbq.trans h) hr)
          have HPf := Lib.hid (fun (st : PlSt) (h : bq = false) (hr : st.1.length < cntP x.data.n) => plStep_none (s := (⟨⟨⟨sA, sn, sc, sx⟩, ⟨qA, qn, qc, qx⟩⟩, ⟨ut, uf, uo⟩, ⟨oA, on, oc, ox⟩, ⟨iA, im, ic, ix⟩⟩ : Sto)) (st := st) (x := x) (hbq.trans h) hr)
          have HPz := Lib.hid (fun (h : plAll (⟨⟨⟨sA, sn, sc, sx⟩, ⟨qA, qn, qc, qx⟩⟩, ⟨ut, uf, uo⟩, ⟨oA, on, oc, ox⟩, ⟨iA, im, ic, ix⟩⟩ : Sto) (xs.take (k + 1)) = none) => plAll_none h)
          generalize hKL : keptL ox x.key x.data.xs = KL at *
          clear hKL hbq
          go_wp2_with (first | (refine shl_load HH.out sizeSto (by kernel_rfl) rfl rfl rfl 9 rfl rfl ?_) | (refine shl_load HH.out sizeOb (by kernel_rfl) rfl rfl rfl 3 rfl rfl ?_))
          refine HK5.out.mono ?_
          rintro e w5 ⟨A5, c5, rfl, hown, e5⟩
          obtain ⟨k51, k52⟩ := own_form2 hown
          obtain ⟨S5, H5⟩ := HH.out.bagExt (j := 2) rfl e5 (L2 := [(A5, ints KL)]) (fun q hq => by
            simp only [List.mem_cons, List.not_mem_nil, or_false] at hq
            subst hq
            exact Rd.of_own hown)
          obtain ⟨L5, hL5⟩ : ∃ L5, L5 = (A5, ints KL) :: L := ⟨_, rfl⟩
          have HM5 := Lib.hid (show (A5, ints KL) ∈ L5 ∧ ∀ q ∈ L, q ∈ L5 by rw [hL5]; exact ⟨List.mem_cons_self .., fun q hq => List.mem_cons_of_mem _ hq⟩)
          have HH5 := Lib.hid (show Heap w (wits wb fA fs.length fc aA ac acts S5 L5 (.box tb [.string x.key, .slice x.data.A x.data.n x.data.c, .slice x.locs.A x.locs.n x.locs.c] :: (.box nb [.slice none 0 0, .slice none 0 0, .int .i64 (ut + 1), .int .i64 0, .int .i64 (n : Int), .slice pA (os).length pc, .slice none 0 0] :: .row 35 3 (.slice pA (os).length pc) (os).length ((os).flatMap Ob.cells) :: [.box ob zSto, .box ab [.slice none 0 0], .box eb [.int .i64 0], .box sb [.slice sA sn sc, .slice qA qn qc, .int .i64 ut, .int .i64 uf, .int .i64 uo, .slice oA on oc, .slice iA im ic]]))) w5 by rw [hL5]; exact H5)
          clear HH hown e5 H5 hL5 HK5
          have HH := HH5
          clear HH5
          have HDn := Lib.hid HXA.out.data.len
          have hdc := HXA.out.data.le
          by_cases hbad : bq = false ∧ fs.length < cntP x.data.n
          · obtain ⟨hq, hroom⟩ := hbad
            subst hq
            clear HPs HPp
            go_wp2_with (refine shl_load1 HH.out rfl rfl rfl 3 rfl rfl (by decide +kernel) ?_)
            refine (wput_bad wb fA fs.length fc aA ac acts S5 L5 HH.out x.data.A x.data.n x.data.c x.data.xs HDn.out HXA.out.data.rdb hdc hdb hroom).mono ?_
            rintro e w6 ⟨rfl, h6⟩
            refine cm_panic 17 (h6.pick [6, 7, 8] (by decide) rfl rfl) rfl rfl rfl ?_
            intro w9 e9
            exact HOut.out _ _ (.inl ⟨17, .inr (.inr ⟨H01.out.1, H01.out.2, rfl, fun st hst => by
              have h1 := HPz.out (by rw [HPk.out, HP.out]; exact HPf.out (fs, acts.map acAbs, os.map strip) (by first | rfl | trivial) hroom)
              rw [h1] at hst
              cases hst⟩), rfl, e9⟩)
          · go_upto_if 68 with fail
            go_cut [15] from 69 to 72 (fun v wx => ∃ (fs' : List Int) (fA' : Option Addr) (fc' : Nat) (aA' : Option Addr) (ac' : Nat) (acts' : List Ac) (S' : Nat → Prop) (L' : RdL) (A' : Option Addr) (c' : Nat) (ys : List Int), v = .slice A' ys.length c' ∧ ys.length ≤ c' ∧ c' ≤ maxLen ∧
              Hid (plStep (⟨⟨⟨sA, sn, sc, sx⟩, ⟨qA, qn, qc, qx⟩⟩, ⟨ut, uf, uo⟩, ⟨oA, on, oc, ox⟩, ⟨iA, im, ic, ix⟩⟩ : Sto) (fs, acts.map acAbs, os.map strip) x = some (fs', acts'.map acAbs, os.map strip ++ [(x.key, x.data.xs, ys)])) ∧ fs'.length ≤ fc' ∧ acts'.length + fs'.length ≤ 8192 ∧ Hid ((fA', ints fs') ∈ L') ∧ Hid (∀ y ∈ fs', 2 ≤ y ∧ y < (sn : Int)) ∧ Hid (∀ a ∈ acts', AcIn L' sn a) ∧ Hid (∀ q ∈ L, q ∈ L') ∧
              Hid ((A', ints ys) ∈ L' ∧ ∀ y ∈ ys, (Lit.int .i64 y).wf = true) ∧
              Hid (Heap w (wits wb fA' fs'.length fc' aA' ac' acts' S' L' (.box tb [.string x.key, .slice x.data.A x.data.n x.data.c, .slice x.locs.A x.locs.n x.locs.c] :: (.box nb [.slice none 0 0, .slice none 0 0, .int .i64 (ut + 1), .int .i64 0, .int .i64 (n : Int), .slice pA (os).length pc, .slice none 0 0] :: .row 35 3 (.slice pA (os).length pc) (os).length ((os).flatMap Ob.cells) :: [.box ob zSto, .box ab [.slice none 0 0], .box eb [.int .i64 0], .box sb [.slice sA sn sc, .slice qA qn qc, .int .i64 ut, .int .i64 uf, .int .i64 uo, .slice oA on oc, .slice iA im ic]]))) wx))
            case first =>
              cases bq with
              | true =>
                have HPq := Lib.hid (HPs.out (fs, acts.map acAbs, os.map strip) rfl)
                clear HPs HPp HPf HPz hbad
                go_wp2_with fail
                go_meet
                exact ⟨fs, fA, fc, aA, ac, acts, S5, L5, A5, c5, KL, rfl, k51, k52, HPq, hfc, hal, Lib.hid (HM5.out.2 _ HFi.out), HFm, Lib.hid (fun a ha => (HAi.out a ha).more HM5.out.2), Lib.hid HM5.out.2, Lib.hid ⟨HM5.out.1, HKx.out⟩, HH⟩
              | false =>
                have hroom : cntP x.data.n ≤ fs.length := by
                  rcases Nat.lt_or_ge fs.length (cntP x.data.n) with h | h
                  · exact absurd ⟨rfl, h⟩ hbad
                  · exact h
                have HPq := Lib.hid (HPp.out (fs, acts.map acAbs, os.map strip) rfl hroom)
                clear HPs HPp HPf HPz hbad
                go_wp2_with (refine shl_load1 HH.out rfl rfl rfl 3 rfl rfl (by decide +kernel) ?_)
                refine (wput_ok wb fA fs.length fc aA ac acts S5 L5 fs HH.out (HM5.out.2 _ HFi.out) rfl hfc (by omega) (by omega) x.data.A x.data.n x.data.c x.data.xs HDn.out HXA.out.data.rdb hdc hdb hroom).mono ?_
                rintro e w6 ⟨A6, c6, fA6, fc6, aA6, ac6, S6, L6, pgs, rfl, hPO⟩
                have hfl : (fs.take (cntP x.data.n)).length = cntP x.data.n := by rw [List.length_take]; omega
                have hpl : pgs.length = cntP x.data.n := by
                  have h := congrArg List.length hPO.pages
                  rw [List.length_map, cutB, List.length_map, List.length_range, ← HDn.out] at h
                  exact h
                have hp64 : ∀ p ∈ pgs, InBag L6 p ∧ p.n = 64 := fun p hp => by
                  have h1 := hPO.inb p hp
                  refine ⟨h1, ?_⟩
                  have h2 := List.mem_map_of_mem (f := fun o : Oct => o.xs) hp
                  rw [hPO.pages, cutB] at h2
                  obtain ⟨j, _, h3⟩ := List.mem_map.1 h2
                  have h4 : pgB (partO x.data.xs j) 0 = p.xs := h3
                  rw [h1.len, ← h4]
                  exact pgB_len _ _ (partO_len _ _)
                go_wp2_with fail
                go_meet
                refine ⟨fs.drop (cntP x.data.n), fA6, fc6, aA6, ac6, acts ++ putA (fs.take (cntP x.data.n)) pgs, S6, L6, A6, c6, fs.take (cntP x.data.n), by rw [hfl], by rw [hfl]; exact hPO.le, hPO.cap, Lib.hid ?_, ?_, ?_, Lib.hid hPO.free, Lib.hid (fun y hy => HFm.out y (List.mem_of_mem_drop hy)), Lib.hid (fun a ha => ?_), Lib.hid (fun q hq => hPO.more _ (HM5.out.2 _ hq)), Lib.hid ⟨hPO.ats, fun y hy => ?_⟩, Lib.hid ?_⟩
                · rw [HPq.out, List.map_append, putA_abs, hPO.pages]
                · rw [List.length_drop]; exact hPO.fle
                · rw [List.length_append, putA_len, hfl, hpl, List.length_drop]; omega
                · rcases List.mem_append.1 ha with ha | ha
                  · exact (HAi.out a ha).more (fun q hq => hPO.more _ (HM5.out.2 _ hq))
                  · exact putA_in (fun y hy => by have := HFm.out y (List.mem_of_mem_take hy); omega) hp64 a ha
                · have h8 := HFm.out y (List.mem_of_mem_take hy)
                  simp only [Lit.wf, Bool.and_eq_true, decide_eq_true_eq]
                  constructor
                  · show (-9223372036854775808 : Int) ≤ y; omega
                  · show y ≤ (9223372036854775807 : Int); omega
                · rw [List.length_drop]; exact hPO.heap
            case rest =>
              obtain ⟨fs', fA', fc', aA', ac', acts', S', L', A', c', ys, rfl, j1, j2, HPq, hfc', hal', HFi', HFm', HAi', HLL, HYi, HH⟩ := hcut
              obtain ⟨i0, hi0, hz0, hz1, hz2⟩ := info_parts infoOb
              have hol : os.length ≤ 256 := by rw [HOl.out]; omega
              clear hbad HPs HPp HPf HPz HKx
              go_upto_region 17 with fail
              refine wp_noP ?_
              have HHd := Lib.hid HH.out.drew
              clear HH
              refine rgnM (fun k => Nat.blt k 11) (S := fun W => W.cell? ⟨nb, 5, none⟩ = some (.slice pA os.length pc) ∧ W.cell? ⟨tb, 0, none⟩ = some (.string x.key) ∧ W.cell? ⟨tb, 1, none⟩ = some (.slice x.data.A x.data.n x.data.c)) (by kernel_rfl) ⟨(HHd.out.boxAt 4 rfl).cell 5 _ rfl, (HHd.out.boxAt 3 rfl).cell 0 _ rfl, (HHd.out.boxAt 3 rfl).cell 1 _ rfl⟩ (fun hHeld => ?_)
              generalize World.drew _ = wd at *
              refine mS 0 ?_; (try simp only [Act.put, lyA, lyB, lyC])
              refine mS 1 ?_; (try simp only [Act.put, lyA, lyB, lyC])
              refine mS 2 ?_; (try simp only [Act.put, lyA, lyB, lyC])
              refine mS 3 ?_; (try simp only [Act.put, lyA, lyB, lyC])
              refine mS 4 ?_; (try simp only [Act.put, lyA, lyB, lyC])
              refine mS 5 ?_; (try simp only [Act.put, lyA, lyB, lyC])
              refine mS 7 ?_; (try simp only [Act.put, lyA, lyB, lyC])
              clear hHeld
              refine oneM 6 rfl (by kernel_rfl) (by kernel_rfl) (fun K hK => ?_)
              go_simp
              refine (cloneb_any wd wd.heap.size (Nat.le_refl _) x.data.A x.data.n x.data.c x.data.xs HDn.out (HHd.out.old HXA.out.data.rdb) (by omega)).mono ?_
              rintro e w6 ⟨v6, rfl, hown, e6⟩
              obtain ⟨A6, c6, rfl, k61, k62, _⟩ := own_form hown
              obtain ⟨S6, H6⟩ := HHd.out.bagExt (j := 2) rfl e6 (L2 := [(A6, bytes x.data.xs)]) (fun q hq => by
                simp only [List.mem_cons, List.not_mem_nil, or_false] at hq
                subst hq
                exact Rd.of_own hown)
              obtain ⟨L6, hL6⟩ : ∃ L6, L6 = (A6, bytes x.data.xs) :: L' := ⟨_, rfl⟩
              have HM6 := Lib.hid (show (A6, bytes x.data.xs) ∈ L6 ∧ ∀ q ∈ L', q ∈ L6 by rw [hL6]; exact ⟨List.mem_cons_self .., fun q hq => List.mem_cons_of_mem _ hq⟩)
              have HH6 := Lib.hid (show Heap w (wits wb fA' fs'.length fc' aA' ac' acts' S6 L6 (.box tb [.string x.key, .slice x.data.A x.data.n x.data.c, .slice x.locs.A x.locs.n x.locs.c] :: (.box nb [.slice none 0 0, .slice none 0 0, .int .i64 (ut + 1), .int .i64 0, .int .i64 (n : Int), .slice pA (os).length pc, .slice none 0 0] :: .row 35 3 (.slice pA (os).length pc) (os).length ((os).flatMap Ob.cells) :: [.box ob zSto, .box ab [.slice none 0 0], .box eb [.int .i64 0], .box sb [.slice sA sn sc, .slice qA qn qc, .int .i64 ut, .int .i64 uf, .int .i64 uo, .slice oA on oc, .slice iA im ic]]))) w6 by rw [hL6]; exact H6)
              clear HHd hown e6 H6 hL6
              go_wp2_with fail
              refine hK.out _ _ ⟨(HH6.out.boxAt 4 rfl).cell 5 _ rfl, (HH6.out.boxAt 3 rfl).cell 0 _ rfl, (HH6.out.boxAt 3 rfl).cell 1 _ rfl⟩ (fun hHeld => ?_)
              clear hK K
              (try simp only [Act.put, lyA, lyB, lyC])
              refine mS 8 ?_; (try simp only [Act.put, lyA, lyB, lyC])
              clear hHeld
              refine oneM 9 rfl (by kernel_rfl) (by kernel_rfl) (fun K hK => ?_)
              go_simp
              generalize hwA : World.alloc _ _ = w7
              have HH7 := Lib.hid (HH6.out.allocE hwA)
              clear hwA HH6
              refine hK.out _ _ ⟨(HH7.out.boxAt 5 rfl).cell 5 _ rfl, (HH7.out.boxAt 4 rfl).cell 0 _ rfl, (HH7.out.boxAt 4 rfl).cell 1 _ rfl⟩ (fun hHeld => ?_)
              clear hK K hHeld
              (try simp only [Act.put, lyA, lyB, lyC])
              refine freeM 10 rfl (by kernel_rfl) (by kernel_rfl) (by kernel_rfl) (fun K hK => ?_)
              refine sh_app (.tmp 74) (.tmp 82) _ rfl Tryz.underlying28 hi0 hz0 hz1 hz2 rfl (by omega) HH7.out 6 rfl rfl (m := 1) rfl rfl (HH7.out.boxRd 0 rfl) (by simp [Value.oneCell']) (by simp only [maxLen]; omega) (by omega) ?_
              rintro v8 w8 hh8 ⟨A8, c8, rfl⟩
              have HH8 := Lib.hid hh8.tail
              clear hh8 HH7
              refine hK.out _ _ ?_
              clear hK K
              (try simp only [Act.put, lyA, lyB, lyC])
              refine pureM 11 (v := ?_) rfl (by kernel_rfl) (by kernel_rfl) (by kernel_rfl) (by kernel_rfl) (fun _ _ _ h => h) (by kernel_rfl) ?_ (fun h => absurd h (no_more (by kernel_rfl))) ?_; rotate_left; (focus (intro w; go_simp <;> with_reducible rfl)); (try simp only [Act.put, lyA, lyB, lyC])
              refine freeM 12 rfl (by kernel_rfl) (by kernel_rfl) (by kernel_rfl) (fun K hK => ?_)
              refine sh_store1 HH8.out rfl rfl rfl 4 rfl (Nat.le_of_ble_eq_true rfl) rfl (by kernel_rfl) ?_
              intro w9 hh9
              have HH9 := Lib.hid hh9
              clear hh9 HH8
              refine hK.out _ _ ?_
              clear hK K
              (try simp only [Act.put, lyA, lyB, lyC])
              refine doneM (by kernel_rfl) ?_
              simp only [noP]
              obtain ⟨on2, hon2⟩ : ∃ o : Ob, o = ⟨x.key, ⟨A6, x.data.n, c6, x.data.xs⟩, ⟨A', ys.length, c', ys⟩⟩ := ⟨_, rfl⟩
              have HO2 := Lib.hid (show on2.cells = [.string x.key, .slice A6 x.data.n c6, .slice A' ys.length c'] ∧ strip on2 = (x.key, x.data.xs, ys) ∧ ObIn L6 on2 by
                rw [hon2]
                exact ⟨rfl, rfl, HXA.out.key, ⟨HDn.out, k61, k62, HM6.out.1⟩, rfl, j1, j2, HM6.out.2 _ HYi.out.1, HYi.out.2⟩)
              clear hon2
              have HHn := Lib.hid (show Heap w (wits wb fA' fs'.length fc' aA' ac' acts' S6 L6 (let pA := A8; let pc := c8; (.box nb [.slice none 0 0, .slice none 0 0, .int .i64 (ut + 1), .int .i64 0, .int .i64 (n : Int), .slice pA ((os ++ [on2])).length pc, .slice none 0 0] :: .row 35 3 (.slice pA ((os ++ [on2])).length pc) ((os ++ [on2])).length (((os ++ [on2])).flatMap Ob.cells) :: [.box ob zSto, .box ab [.slice none 0 0], .box eb [.int .i64 0], .box sb [.slice sA sn sc, .slice qA qn qc, .int .i64 ut, .int .i64 uf, .int .i64 uo, .slice oA on oc, .slice iA im ic]]))) w9 by
                have h9 := HH9.out.pick [0, 1, 2, 4, 5, 6, 7, 8, 9] (by decide) rfl rfl
                rw [List.length_append, List.flatMap_append, List.flatMap_singleton, HO2.out.1]
                exact h9)
              clear HH9
              go_wp2_with fail
              go_roundw
              case rel =>
                refine ⟨k + 1, fs', fA', fc', aA', ac', acts', S6, L6, os ++ [on2], A8, c8, by omega, by go_num, Lib.hid ?_, hfc', hal', Lib.hid (by rw [List.length_append, HOl.out]; rfl), Lib.hid (HM6.out.2 _ HFi'.out), HFm', Lib.hid (fun a ha => (HAi'.out a ha).more HM6.out.2), Lib.hid (fun o ho => ?_), HHn⟩
                · rw [HPk.out, HP.out, List.map_append, List.map_singleton, HO2.out.2.1]
                  exact HPq.out
                · rcases List.mem_append.1 ho with ho | ho
                  · exact (HOi.out o ho).more (fun q hq => HM6.out.2 _ (HLL.out _ hq))
                  · simp only [List.mem_singleton] at ho
                    subst ho
                    exact HO2.out.2.2
              case measure => simp [intOf]; omega
        · obtain rfl : n = k := by omega
          have HPA := Lib.hid (show plAll (⟨⟨⟨sA, sn, sc, sx⟩, ⟨qA, qn, qc, qx⟩⟩, ⟨ut, uf, uo⟩, ⟨oA, on, oc, ox⟩, ⟨iA, im, ic, ix⟩⟩ : Sto) xs = some (fs, acts.map acAbs, os.map strip) from by rw [← HPn.out, ← Hn.out]; exact HP.out)
          have HZ := Lib.hid (HSz.out _ HPA.out)
          clear HP HPn HPS HSz HIdx HDl HKp HKw
          have HOx := Lib.hid (fun x (hx : x ∈ os) => show x.data.n = x.data.xs.length from (HOi.out x hx).data.len)
          have hol : os.length ≤ 256 := by rw [HOl.out]; omega
          have HSt := Lib.hid (show idxT os = idxS (os.map strip) from idxT_strip os HOx.out)
          have HIx := Lib.hid (fun (hh : Heap w (wits wb fA fs.length fc aA ac acts S L (.box nb [.slice none 0 0, .slice none 0 0, .int .i64 (ut + 1), .int .i64 0, .int .i64 (n : Int), .slice pA (os).length pc, .slice none 0 0] :: .row 35 3 (.slice pA (os).length pc) (os).length ((os).flatMap Ob.cells) :: [.box ob zSto, .box ab [.slice none 0 0], .box eb [.int .i64 0], .box sb [.slice sA sn sc, .slice qA qn qc, .int .i64 ut, .int .i64 uf, .int .i64 uo, .slice oA on oc, .slice iA im ic]])) wr) => show Calls Tryz.prog 46 #[.slice pA os.length pc] wr (WriteOk (idxS (os.map strip)) wr) by
            rw [← HSt.out]
            obtain ⟨q1, q2⟩ := own_form2 (hh.rowAt 4 rfl)
            exact index_any wr (⟨pA, os.length, pc, os⟩ : Sl Ob) ⟨rfl, q1, q2, (hh.rowRd 4 rfl).m0, fun x hx => Ob.At.imp ((HOi.out x hx).at_ hh (j := 2) rfl) (fun _ _ h => h.m0)⟩ (by show os.length ≤ _; omega) (fun x hx => by
              have h3 := HZ.out.2.2.2 (strip x) (List.mem_map_of_mem hx)
              have h4 := (HOi.out x hx).len
              have h5 : (strip x).2.2.length = x.locs.xs.length := rfl
              omega))
          have HZe := Lib.hid (show wE (idxS (os.map strip)) = 0 from HZ.out.1)
          have HZl := Lib.hid HZ.out.2.1
          have hz2 := HZ.out.2.2.1
          clear HZ HSt
          have HPI := Lib.hid (show ∀ st : PlSt, st.2.2 = os.map strip → plIdx st xs = if xs = [] then some ([], st.2.1) else if cntP (wB (idxS (os.map strip))).length ≤ st.1.length then some (st.1.take (cntP (wB (idxS (os.map strip))).length), st.2.1 ++ List.zipWith (fun y p => (false, y, p)) (st.1.take (cntP (wB (idxS (os.map strip))).length)) (chB (wB (idxS (os.map strip))) (st.1.take (cntP (wB (idxS (os.map strip))).length)))) else none from fun st hst => by unfold plIdx; rw [hst])
          generalize hWB : wB (idxS (os.map strip)) = WB at *
          have HWB := Lib.hid hWB
          clear hWB
          by_cases hbad : 0 < n ∧ fs.length < cntP WB.length
          · obtain ⟨hn0, hroom⟩ := hbad
            have hdq : decide (0 < n) = true := by simpa using hn0
            go_upto_region 20 with fail
            go_wp2_with (refine shl_load1 HH.out rfl rfl rfl 3 rfl rfl (by decide +kernel) ?_); refine (HIx.out HH.out).mono ?_; rintro e w6 ⟨v6, rfl, hown, e6⟩; rw [HWB.out] at hown; rw [HZe.out]; obtain ⟨A6, c6, rfl, k61, k62, _⟩ := own_form hown; obtain ⟨S6, H6⟩ := HH.out.bagExt (j := 2) rfl e6 (L2 := [(A6, bytes WB)]) (fun q hq => by simp only [List.mem_cons, List.not_mem_nil, or_false] at hq; subst hq; exact Rd.of_own hown); obtain ⟨L6, hL6⟩ : ∃ L6, L6 = (A6, bytes WB) :: L := ⟨_, rfl⟩; have HM6 := Lib.hid (show (A6, bytes WB) ∈ L6 ∧ ∀ q ∈ L, q ∈ L6 by rw [hL6]; exact ⟨List.mem_cons_self .., fun q hq => List.mem_cons_of_mem _ hq⟩); have HH6 := Lib.hid (show Heap w (wits wb fA fs.length fc aA ac acts S6 L6 (.box nb [.slice none 0 0, .slice none 0 0, .int .i64 (ut + 1), .int .i64 0, .int .i64 (n : Int), .slice pA (os).length pc, .slice none 0 0] :: .row 35 3 (.slice pA (os).length pc) (os).length ((os).flatMap Ob.cells) :: [.box ob zSto, .box ab [.slice none 0 0], .box eb [.int .i64 0], .box sb [.slice sA sn sc, .slice qA qn qc, .int .i64 ut, .int .i64 uf, .int .i64 uo, .slice oA on oc, .slice iA im ic]])) w6 by rw [hL6]; exact H6); clear HH hown e6 H6 hL6
            go_wp2_with fail
            refine (wchain_bad wb fA fs.length fc aA ac acts S6 L6 HH6.out A6 WB.length c6 hz2 hroom).mono ?_
            rintro e w7 ⟨rfl, h7⟩
            refine cm_panic 17 (h7.pick [5, 6, 7] (by decide) rfl rfl) rfl rfl rfl ?_
            intro w9 e9
            exact HOut.out _ _ (.inl ⟨17, .inr (.inr ⟨H01.out.1, H01.out.2, rfl, fun st hst => by
              have h1 : st = (fs, acts.map acAbs, os.map strip) := Option.some.inj (hst.symm.trans HPA.out)
              subst h1
              have h2 : ¬ xs = [] := fun h => by have := Hn.out; rw [h] at this; simp at this; omega
              rw [HPI.out _ rfl, if_neg h2, if_neg (show ¬ cntP WB.length ≤ fs.length by omega)]⟩), rfl, e9⟩)
          · have HPJ := Lib.hid (HPI.out (fs, acts.map acAbs, os.map strip) rfl)
            clear HPI
            go_upto_if 88 with fail
            go_cut [12] from 17 to 104 (fun v wx => ∃ (fn' : Nat) (fA' : Option Addr) (fc' : Nat) (aA' : Option Addr) (ac' : Nat) (acts' : List Ac) (S' : Nat → Prop) (L' : RdL) (jA : Option Addr) (jc : Nat) (ys : List Int), v = .pointer (some ⟨nb, 0, none⟩) ∧
              Hid (plIdx (fs, acts.map acAbs, os.map strip) xs = some (ys, acts'.map acAbs)) ∧ acts'.length ≤ 8192 ∧ ys.length ≤ jc ∧ jc ≤ maxLen ∧ Hid ((jA, ints ys) ∈ L') ∧ Hid (∀ y ∈ ys, 2 ≤ y ∧ y < (sn : Int)) ∧ Hid (n = 0 ∧ ys = [] ∨ 0 < n ∧ 1 ≤ ys.length) ∧ Hid (∀ a ∈ acts', AcIn L' sn a) ∧ Hid (∀ q ∈ L, q ∈ L') ∧
              Hid (Heap w (wits wb fA' fn' fc' aA' ac' acts' S' L' (.box nb [.slice none 0 0, .slice none 0 0, .int .i64 (ut + 1), .int .i64 (ys.getD 0 0), .int .i64 (n : Int), .slice pA (os).length pc, .slice jA ys.length jc] :: .row 35 3 (.slice pA (os).length pc) (os).length ((os).flatMap Ob.cells) :: [.box ob zSto, .box ab [.slice none 0 0], .box eb [.int .i64 0], .box sb [.slice sA sn sc, .slice qA qn qc, .int .i64 ut, .int .i64 uf, .int .i64 uo, .slice oA on oc, .slice iA im ic]])) wx))
            case first =>
              by_cases hn0 : n = 0
              · have hdq : decide (0 < n) = false := by simpa using hn0
                have hxs : xs = [] := List.eq_nil_of_length_eq_zero (by rw [← Hn.out]; exact hn0)
                obtain ⟨S6, H6⟩ := HH.out.bagExt (j := 2) rfl (Ext.refl _) (L2 := [(none, ints [])]) (fun q hq => by
                  simp only [List.mem_cons, List.not_mem_nil, or_false] at hq
                  subst hq
                  exact Rd.nil)
                rw [if_pos hxs] at HPJ
                have HN0 := Lib.hid hn0
                have hnn : ¬ 0 < n := by omega
                clear hxs hbad hn0
                go_wp2_with fail
                go_meet
                exact ⟨fs.length, fA, fc, aA, ac, acts, S6, _, none, 0, [], rfl, HPJ, by omega, Nat.le_refl _, Nat.zero_le _, Lib.hid (List.mem_cons_self ..), Lib.hid (by simp), Lib.hid (.inl ⟨HN0.out, rfl⟩), Lib.hid (fun a ha => (HAi.out a ha).more fun q hq => List.mem_cons_of_mem _ hq), Lib.hid (fun q hq => List.mem_cons_of_mem _ hq), Lib.hid H6⟩
              · have hdq : decide (0 < n) = true := by simp; omega
                have hxs : ¬ xs = [] := fun h => hn0 (by rw [Hn.out, h]; rfl)
                have hroom : cntP WB.length ≤ fs.length := by
                  rcases Nat.lt_or_ge fs.length (cntP WB.length) with h | h
                  · exact absurd ⟨by omega, h⟩ hbad
                  · exact h
                have hone : 1 ≤ cntP WB.length := by have := HZl.out; unfold cntP; omega
                rw [if_neg hxs, if_pos hroom] at HPJ
                have HN0 := Lib.hid hn0
                have hnp : 0 < n := by omega
                clear hxs hbad hn0
                go_upto_region 20 with fail
                go_wp2_with (refine shl_load1 HH.out rfl rfl rfl 3 rfl rfl (by decide +kernel) ?_); refine (HIx.out HH.out).mono ?_; rintro e w6 ⟨v6, rfl, hown, e6⟩; rw [HWB.out] at hown; rw [HZe.out]; obtain ⟨A6, c6, rfl, k61, k62, _⟩ := own_form hown; obtain ⟨S6, H6⟩ := HH.out.bagExt (j := 2) rfl e6 (L2 := [(A6, bytes WB)]) (fun q hq => by simp only [List.mem_cons, List.not_mem_nil, or_false] at hq; subst hq; exact Rd.of_own hown); obtain ⟨L6, hL6⟩ : ∃ L6, L6 = (A6, bytes WB) :: L := ⟨_, rfl⟩; have HM6 := Lib.hid (show (A6, bytes WB) ∈ L6 ∧ ∀ q ∈ L, q ∈ L6 by rw [hL6]; exact ⟨List.mem_cons_self .., fun q hq => List.mem_cons_of_mem _ hq⟩); have HH6 := Lib.hid (show Heap w (wits wb fA fs.length fc aA ac acts S6 L6 (.box nb [.slice none 0 0, .slice none 0 0, .int .i64 (ut + 1), .int .i64 0, .int .i64 (n : Int), .slice pA (os).length pc, .slice none 0 0] :: .row 35 3 (.slice pA (os).length pc) (os).length ((os).flatMap Ob.cells) :: [.box ob zSto, .box ab [.slice none 0 0], .box eb [.int .i64 0], .box sb [.slice sA sn sc, .slice qA qn qc, .int .i64 ut, .int .i64 uf, .int .i64 uo, .slice oA on oc, .slice iA im ic]])) w6 by rw [hL6]; exact H6); clear HH hown e6 H6 hL6
                go_wp2_with fail
                refine (wchain_ok wb fA fs.length fc aA ac acts S6 L6 fs HH6.out (HM6.out.2 _ HFi.out) rfl hfc (by omega) (by omega) (fun y hy => by have := HFm.out y hy; omega) A6 WB.length c6 WB rfl (.inr HM6.out.1) k61 hz2 hroom).mono ?_
                rintro e w7 ⟨A7, c7, fA7, fc7, aA7, ac7, S7, L7, pgs, rfl, hPO⟩
                have hfl : (fs.take (cntP WB.length)).length = cntP WB.length := by rw [List.length_take]; omega
                have hpl : pgs.length = cntP WB.length := by
                  have h := congrArg List.length hPO.pages
                  rw [List.length_map, chB_length] at h
                  exact h
                have HAc := Lib.hid (show ∀ a ∈ acts ++ putA (fs.take (cntP WB.length)) pgs, AcIn L7 sn a from fun a ha => by
                  rcases List.mem_append.1 ha with ha | ha
                  · exact (HAi.out a ha).more (fun q hq => hPO.more _ (HM6.out.2 _ hq))
                  · exact putA_in (fun y hy => by have := HFm.out y (List.mem_of_mem_take hy); omega) (fun p hp => by
                      have h1 := hPO.inb p hp
                      refine ⟨h1, ?_⟩
                      have h2 := List.mem_map_of_mem (f := fun o : Oct => o.xs) hp
                      rw [hPO.pages] at h2
                      have h3 := chB_len64 h2
                      rw [h1.len]
                      exact h3) a ha)
                have HPK := Lib.hid (show plIdx (fs, acts.map acAbs, os.map strip) xs = some (fs.take (cntP WB.length), (acts ++ putA (fs.take (cntP WB.length)) pgs).map acAbs) by rw [HPJ.out, List.map_append, putA_abs, hPO.pages])
                have hal7 : (acts ++ putA (fs.take (cntP WB.length)) pgs).length ≤ 8192 := by rw [List.length_append, putA_len, hfl, hpl]; omega
                have HHb := Lib.hid hPO.heap
                have HMo := Lib.hid (fun q hq => hPO.more q (HM6.out.2 q hq))
                have HAt := Lib.hid hPO.ats
                have k71 := hPO.le
                have k72 := hPO.cap
                have HFt := Lib.hid (fun y (hy : y ∈ fs.take (cntP WB.length)) => HFm.out y (List.mem_of_mem_take hy))
                clear hPO HH6 HPJ HAi hpl
                have HH := HHb
                clear HHb
                generalize acts ++ putA (fs.take (cntP WB.length)) pgs = acts7 at *
                generalize fs.take (cntP WB.length) = ys at *
                rw [← hfl] at k71 ⊢
                have hy1 : 0 < ys.length := by omega
                clear hfl hone
                obtain ⟨b7, o7, rfl, _, g0⟩ := rd_int2 (HH.out.bagRd (j := 2) rfl HAt.out) hy1
                have HY0 := Lib.hid (show ys.getD 0 0 = ys[0] by rw [List.getD_eq_getElem?_getD, List.getElem?_eq_getElem hy1]; rfl)
                clear g0
                go_upto_region 22 with (refine shl_store1 HH.out rfl rfl rfl rfl 3 rfl rfl rfl (by kernel_rfl) ?_; clear HH; intro wS HHS; have HH := Lib.hid HHS; clear HHS)
                have g0 := rdI_at (HH.out.bagRd (j := 2) rfl HAt.out) hy1
                generalize ys[0] = y0 at *
                rw [Nat.add_zero] at g0
                go_wp2_with (first | (refine shl_load1 HH.out rfl rfl rfl 3 rfl rfl (by decide +kernel) ?_) | (refine shl_store1 HH.out rfl rfl rfl rfl 3 rfl rfl rfl (by kernel_rfl) ?_; clear HH; intro wS HHS; have HH := Lib.hid HHS; clear HHS))
                go_meet
                exact ⟨_, fA7, fc7, aA7, ac7, acts7, S7, L7, some ⟨b7, o7, none⟩, c7, ys, rfl, HPK, hal7, k71, k72, HAt, HFt, Lib.hid (.inr ⟨hnp, hy1⟩), HAc, HMo, Lib.hid (by rw [HY0.out]; exact HH.out)⟩
            case rest =>
              obtain ⟨fn', fA', fc', aA', ac', acts', S', L', jA, jc, ys, rfl, HPK, hal', j1, j2, HAt, HFt, HY, HAc, HLL, HH⟩ := hcut
              have HU2 := Lib.hid (cmUb_ok hut.1 htx (show n ≤ 256 by omega) hdn HY.out HFt.out)
              clear hbad HPJ HY HAi HFi HFm HIx HWB HZe HZl hz2 hal hfc
              have HOj := Lib.hid (fun o ho => (HOi.out o ho).more HLL.out)
              clear HOi HLL
              obtain ⟨y0, hy0⟩ : ∃ y0, y0 = ys.getD 0 0 := ⟨_, rfl⟩
              have HY0 := Lib.hid hy0
              rw [← hy0] at HU2 HH
              clear hy0
              go_wp2_with (refine shl_load HH.out sizeUb (by kernel_rfl) rfl rfl rfl 3 rfl rfl ?_)
              refine (uenc_ok _ ⟨ut + 1, y0, (n : Int)⟩ HU2.out.2 HU2.out.1).mono ?_
              rintro e w3 ⟨A3, c3, rfl, hown, e3⟩
              have HUl := Lib.hid (ueB_len ⟨ut + 1, y0, (n : Int)⟩)
              obtain ⟨UB, hUB⟩ : ∃ UB, UB = ueB ⟨ut + 1, y0, (n : Int)⟩ := ⟨_, rfl⟩
              rw [← hUB] at hown HUl
              have HUB := Lib.hid hUB
              clear hUB
              obtain ⟨S3, H3⟩ := HH.out.bagExt (j := 2) rfl e3 (L2 := [(A3, bytes UB)]) (fun q hq => by
                simp only [List.mem_cons, List.not_mem_nil, or_false] at hq
                subst hq
                exact Rd.of_own hown)
              obtain ⟨q1, q2⟩ := own_form2 hown
              obtain ⟨L3, hL3⟩ : ∃ L3, L3 = (A3, bytes UB) :: L' := ⟨_, rfl⟩
              have HM3 := Lib.hid (show (A3, bytes UB) ∈ L3 ∧ ∀ q ∈ L', q ∈ L3 by rw [hL3]; exact ⟨List.mem_cons_self .., fun q hq => List.mem_cons_of_mem _ hq⟩)
              have HH3 := Lib.hid (show Heap w (wits wb fA' fn' fc' aA' ac' acts' S3 L3 (.box nb [.slice none 0 0, .slice none 0 0, .int .i64 (ut + 1), .int .i64 (y0), .int .i64 (n : Int), .slice pA (os).length pc, .slice jA ys.length jc] :: .row 35 3 (.slice pA (os).length pc) (os).length ((os).flatMap Ob.cells) :: [.box ob zSto, .box ab [.slice none 0 0], .box eb [.int .i64 0], .box sb [.slice sA sn sc, .slice qA qn qc, .int .i64 ut, .int .i64 uf, .int .i64 uo, .slice oA on oc, .slice iA im ic]])) w3 by rw [hL3]; exact H3)
              clear HH hown e3 H3 hL3
              have HH := HH3
              clear HH3
              have HAc3 := Lib.hid (fun a ha => (HAc.out a ha).more HM3.out.2)
              have HOj3 := Lib.hid (fun o ho => (HOj.out o ho).more HM3.out.2)
              have HAt3 := Lib.hid (HM3.out.2 _ HAt.out)
              clear HAc HOj HAt
              go_upto_region 25 with (first | (refine shl_store1 HH.out rfl rfl rfl rfl 7 rfl rfl rfl (by kernel_rfl) ?_; clear HH; intro wS HHS; have HH := Lib.hid HHS; clear HHS) | (refine shl_load1 HH.out rfl rfl rfl 7 rfl rfl (by decide +kernel) ?_) | (go_at_call 59; (refine (sneed_true _ _).mono ?_); rintro e wN ⟨rfl, rfl⟩))
              obtain ⟨i1, hi1, hx0, hx1, hx2⟩ := info_parts infoAct
              obtain ⟨sl, hsl⟩ : ∃ sl, sl = (ut + 1) % 2 := ⟨_, rfl⟩
              have HSl := Lib.hid (fun W => slot_any W ⟨ut + 1, y0, (n : Int)⟩ HU2.out.2 (by show (0 : Int) ≤ ut + 1; have := hut.1; omega))
              have hs0 : 0 ≤ sl ∧ sl < 2 := by omega
              have HSe := Lib.hid hsl
              clear hsl
              simp only [Ub.cells] at HSl
              rw [← HSe.out] at HSl
              refine wp_noP ?_
              have HHd := Lib.hid HH.out.drew
              clear HH
              refine rgnM (fun k => Nat.blt 0 k && Nat.blt k 14) (S := Heap w [_, _]) (by kernel_rfl) (HHd.out.pair 0 3 rfl rfl rfl) (fun hHeld => ?_)
              generalize World.drew _ = wd at *
              refine pureM 0 (v := ?_) rfl (by kernel_rfl) (by kernel_rfl) (by kernel_rfl) (by kernel_rfl) (fun _ _ _ h => h) (by kernel_rfl) ?_ (fun _ => by assumption) ?_; rotate_left; (focus (intro w; go_simp <;> with_reducible rfl)); (try simp only [Act.put, lyA, lyB, lyC])
              refine mS 1 ?_; (try simp only [Act.put, lyA, lyB, lyC])
              refine mS 2 ?_; (try simp only [Act.put, lyA, lyB, lyC])
              refine mS 3 ?_; (try simp only [Act.put, lyA, lyB, lyC])
              refine mG 4 rfl (fun wT hST => sh_run_load1 hST rfl rfl 0 rfl rfl (by kernel_rfl)) hHeld ?_; (try simp only [Act.put, lyA, lyB, lyC])
              refine mS 5 ?_; (try simp only [Act.put, lyA, lyB, lyC])
              refine mS 6 ?_; (try simp only [Act.put, lyA, lyB, lyC])
              refine mG 7 rfl (fun wT hST => sh_run_load hST sizeUb (by kernel_rfl) rfl rfl 1 rfl (Nat.le_of_ble_eq_true rfl)) hHeld ?_; (try simp only [Act.put, lyA, lyB, lyC])
              refine mS 9 ?_; (try simp only [Act.put, lyA, lyB, lyC])
              refine mS 11 ?_; (try simp only [Act.put, lyA, lyB, lyC])
              clear hHeld
              refine oneM 8 rfl (by kernel_rfl) (by kernel_rfl) (fun K hK => ?_)
              go_simp
              refine (HSl.out wd).mono ?_
              rintro e w6 ⟨rfl, e6⟩
              have HH6 := Lib.hid (HHd.out.later e6)
              clear HHd e6
              go_wp2_with fail
              refine hK.out _ _ (HH6.out.pair 0 3 rfl rfl rfl) (fun hHeld => ?_)
              clear hK K
              (try simp only [Act.put, lyA, lyB, lyC])
              refine mS 10 ?_; (try simp only [Act.put, lyA, lyB, lyC])
              clear hHeld
              refine oneM 12 rfl (by kernel_rfl) (by kernel_rfl) (fun K hK => ?_)
              go_simp
              generalize hwA : World.alloc _ _ = w7
              have HH7 := Lib.hid (HH6.out.allocE hwA)
              clear hwA HH6
              refine hK.out _ _ (HH7.out.pair 1 4 rfl rfl rfl) (fun hHeld => ?_)
              clear hK K hHeld
              (try simp only [Act.put, lyA, lyB, lyC])
              refine freeM 13 rfl (by kernel_rfl) (by kernel_rfl) (by kernel_rfl) (fun K hK => ?_)
              refine sh_app (.tmp 119) (.tmp 127) _ rfl Tryz.underlying50 hi1 hx0 hx1 hx2 rfl (by omega) HH7.out 2 rfl rfl (m := 3) rfl rfl (HH7.out.boxRd 0 rfl) (by simp [Value.oneCell']) (by simp only [maxLen]; omega) (by omega) ?_
              rintro v8 w8 hh8 ⟨A8, c8, rfl⟩
              have HH8 := Lib.hid hh8.tail
              clear hh8 HH7
              refine hK.out _ _ ?_
              clear hK K
              (try simp only [Act.put, lyA, lyB, lyC])
              refine pureM 14 (v := ?_) rfl (by kernel_rfl) (by kernel_rfl) (by kernel_rfl) (by kernel_rfl) (fun _ _ _ h => h) (by kernel_rfl) ?_ (fun h => absurd h (no_more (by kernel_rfl))) ?_; rotate_left; (focus (intro w; go_simp <;> with_reducible rfl)); (try simp only [Act.put, lyA, lyB, lyC])
              refine pureM 15 (v := ?_) rfl (by kernel_rfl) (by kernel_rfl) (by kernel_rfl) (by kernel_rfl) (fun _ _ _ h => h) (by kernel_rfl) ?_ (fun h => absurd h (no_more (by kernel_rfl))) ?_; rotate_left; (focus (intro w; go_simp <;> with_reducible rfl)); (try simp only [Act.put, lyA, lyB, lyC])
              refine freeM 16 rfl (by kernel_rfl) (by kernel_rfl) (by kernel_rfl) (fun K hK => ?_)
              refine sh_store1 HH8.out rfl rfl rfl 0 rfl (Nat.le_of_ble_eq_true rfl) rfl (by kernel_rfl) ?_
              intro w9 hh9
              have HH9 := Lib.hid hh9
              clear hh9 HH8
              refine hK.out _ _ ?_
              clear hK K
              (try simp only [Act.put, lyA, lyB, lyC])
              refine doneM (by kernel_rfl) ?_
              simp only [noP]
              obtain ⟨acF, hacF⟩ : ∃ acF : List Ac, acF = acts' ++ [⟨true, 0, ⟨none, 0, 0, []⟩⟩, ⟨false, sl, ⟨A3, 64, c3, UB⟩⟩, ⟨true, 0, ⟨none, 0, 0, []⟩⟩] := ⟨_, rfl⟩
              have HHn := Lib.hid (show Heap w (wits wb fA' fn' fc' A8 c8 acF S3 L3 (.box nb [.slice none 0 0, .slice none 0 0, .int .i64 (ut + 1), .int .i64 (y0), .int .i64 (n : Int), .slice pA (os).length pc, .slice jA ys.length jc] :: .row 35 3 (.slice pA (os).length pc) (os).length ((os).flatMap Ob.cells) :: [.box ob zSto, .box ab [.slice none 0 0], .box eb [.int .i64 0], .box sb [.slice sA sn sc, .slice qA qn qc, .int .i64 ut, .int .i64 uf, .int .i64 uo, .slice oA on oc, .slice iA im ic]])) w9 by
                rw [hacF]
                unfold wits
                rw [List.length_append, List.flatMap_append]
                exact HH9.out)
              have hfl9 : acF.length ≤ 8195 := by rw [hacF, List.length_append]; show acts'.length + 3 ≤ 8195; omega
              have HAf := Lib.hid hacF
              clear HH9 hacF
              have HH := HHn
              clear HHn
              have HAll := Lib.hid (show ∀ a ∈ acF, faultE sn a = 0 from fun a ha => by
                rw [HAf.out] at ha
                rcases List.mem_append.1 ha with ha | ha
                · have h1 := HAc3.out a ha
                  unfold faultE
                  rw [if_neg (by rw [h1.fl]; decide), if_neg (by have := h1.lo; have := h1.hi; omega), if_pos h1.n64]
                · simp only [List.mem_cons, List.not_mem_nil, or_false] at ha
                  rcases ha with rfl | rfl | rfl
                  · rfl
                  · unfold faultE; rw [if_neg (show ¬ false = true from Bool.false_ne_true), if_neg (by show ¬(sl < 0 ∨ (sn : Int) ≤ sl); omega), if_pos rfl]
                  · rfl)
              have HAin := Lib.hid (fun (W : World) (its : List It) (j : Nat) (hW : Heap w its W) (hj : its[j]? = some (It.bag S3 L3)) => show ∀ a ∈ acF, Ac.At W 0 W.heap.size a from fun a ha => by
                rw [HAf.out] at ha
                rcases List.mem_append.1 ha with ha | ha
                · have h1 := HAc3.out a ha
                  refine ⟨by have := h1.lo; omega, by have := h1.hi; omega, ?_⟩
                  exact (h1.inb.at_ hW hj).imp fun _ _ hr => hr.m0
                · simp only [List.mem_cons, List.not_mem_nil, or_false] at ha
                  rcases ha with rfl | rfl | rfl
                  · exact ⟨(by show (-9223372036854775808 : Int) ≤ 0; decide), (by show (0 : Int) ≤ 9223372036854775807; decide), rfl, Nat.le_refl _, Nat.zero_le _, Rd.nil, fun _ _ => trivial⟩
                  · exact ⟨(by show (-9223372036854775808 : Int) ≤ sl; omega), (by show sl ≤ (9223372036854775807 : Int); omega), HUl.out.symm, q1, q2, by rw [octs_flat]; exact (hW.bagRd hj HM3.out.1).m0, fun _ _ => trivial⟩
                  · exact ⟨(by show (-9223372036854775808 : Int) ≤ 0; decide), (by show (0 : Int) ≤ 9223372036854775807; decide), rfl, Nat.le_refl _, Nat.zero_le _, Rd.nil, fun _ _ => trivial⟩)
              go_upto_region 26 with fail
              refine wp_noP ?_
              have HHd := Lib.hid HH.out.drew
              clear HH
              refine wp_region_held_drew (S := Heap w [_, _]) (by kernel_rfl) (HHd.out.pair 8 0 rfl rfl rfl) (fun hHeld => ?_)
              generalize World.drew _ = wd at *
              refine tS 0 ?_; (try simp only [Act.put, lyA, lyB, lyC])
              refine tG 1 rfl (fun wT hST => sh_run_load hST sizeDev (by kernel_rfl) rfl rfl 0 rfl (Nat.le_of_ble_eq_true rfl)) hHeld ?_; (try simp only [Act.put, lyA, lyB, lyC])
              refine tS 2 ?_; (try simp only [Act.put, lyA, lyB, lyC])
              refine tS 3 ?_; (try simp only [Act.put, lyA, lyB, lyC])
              refine tS 4 ?_; (try simp only [Act.put, lyA, lyB, lyC])
              refine tG 5 rfl (fun wT hST => sh_run_load1 hST rfl rfl 1 rfl rfl (by kernel_rfl)) hHeld ?_; (try simp only [Act.put, lyA, lyB, lyC])
              clear hHeld
              refine oS 6 (fun K hK => ?_)
              go_simp
              have HDv := Lib.hid (HA.out.dev.on HHd.out.ext (Nat.le_refl _))
              obtain ⟨q81, q82⟩ := own_form2 (HHd.out.rowAt 1 rfl)
              have HAw := Lib.hid (show Acs wd A8 acF.length c8 acF from ⟨rfl, by simp only [maxLen] at q82; omega, (HHd.out.rowRd 1 rfl).m0, HAin.out _ _ 2 HHd.out rfl⟩)
              refine (do_yes ⟨⟨sA, sn, sc, sx⟩, ⟨qA, qn, qc, qx⟩⟩ wd HDv.out HCk.out A8 acF.length c8 acF HAw.out HAll.out (by have h5 : qn = 0 := HWt.out; show (qn + acF.length) * 32 ≤ _; omega)).mono ?_
              rintro e w10 ⟨⟨d2, rfl, hsv, hsn, hd9⟩, e10⟩
              have HH10 := Lib.hid (HHd.out.addLook e10 (J := fun W => Dev.At W wd.heap.size w10.heap.size d2) (fun _ _ hr hh => hh.imp hr) (Nat.le_refl _) (Nat.le_refl _) hd9)
              have HSv := Lib.hid hsv
              have HSn := Lib.hid hsn
              have HLe := Lib.hid (show w.heap.size ≤ wd.heap.size from HHd.out.ext.size)
              clear HHd hsv hsn hd9 e10 HAw HDv q81 q82
              obtain ⟨⟨eA, en, ec, ex⟩, ⟨gA, gn, gc, gx⟩⟩ := d2
              simp only [Dev.cells, Sl.val]
              go_wp2_with fail
              refine hK.out _ _ (HH10.out.pair 9 1 rfl rfl rfl) (fun hHeld => ?_)
              clear hK K
              (try simp only [Act.put, lyA, lyB, lyC])
              refine tS 7 ?_; (try simp only [Act.put, lyA, lyB, lyC])
              refine tS 8 ?_; (try simp only [Act.put, lyA, lyB, lyC])
              refine tS 9 ?_; (try simp only [Act.put, lyA, lyB, lyC])
              refine tS 10 ?_; (try simp only [Act.put, lyA, lyB, lyC])
              clear hHeld
              refine oS 11 (fun K hK => ?_)
              refine sh_store HH10.out sizeDev rfl rfl rfl 4 rfl rfl (Nat.le_of_ble_eq_true rfl) rfl ?_
              intro w11 hh11
              have HH11 := Lib.hid hh11
              clear hh11 HH10
              refine hK.out _ _ (HH11.out.pair 9 1 rfl rfl rfl) (fun hHeld => ?_)
              clear hK K
              (try simp only [Act.put, lyA, lyB, lyC])
              clear hHeld
              refine oS 12 (fun K hK => ?_)
              refine sh_store1 HH11.out rfl rfl rfl 8 rfl (Nat.le_of_ble_eq_true rfl) rfl (by kernel_rfl) ?_
              intro w12 hh12
              have HH12 := Lib.hid hh12
              clear hh12 HH11
              refine hK.out _ _ (HH12.out.pair 9 1 rfl rfl rfl) (fun hHeld => ?_)
              clear hK K
              (try simp only [Act.put, lyA, lyB, lyC])
              refine wpAnyH_done (by kernel_rfl) ?_ _
              simp only [noP]
              clear hHeld
              have HH := Lib.hid (show Heap w (It.look (fun W => Dev.At W wd.heap.size w10.heap.size ⟨⟨eA, en, ec, ex⟩, ⟨gA, gn, gc, gx⟩⟩) wd.heap.size w10.heap.size (fun _ _ hr hh => hh.imp hr) :: wits wb fA' fn' fc' A8 c8 acF S3 L3 (.box nb [.slice eA en ec, .slice gA gn gc, .int .i64 (ut + 1), .int .i64 y0, .int .i64 (n : Int), .slice pA os.length pc, .slice jA ys.length jc] :: .row 35 3 (.slice pA os.length pc) os.length (os.flatMap Ob.cells) :: [.box ob zSto, .box ab [.slice none 0 0], .box eb [.int .i64 0], .box sb [.slice sA sn sc, .slice qA qn qc, .int .i64 ut, .int .i64 uf, .int .i64 uo, .slice oA on oc, .slice iA im ic]])) w12 from HH12.out)
              clear HH12
              go_upto_region 28 with (first | (refine shl_load1 HH.out rfl rfl rfl 8 rfl rfl (by decide +kernel) ?_) | (go_at_call 59; (refine (sneed_true _ _).mono ?_); rintro e wN ⟨rfl, rfl⟩))
              refine wp_noP ?_
              have HHd := Lib.hid HH.out.drew
              clear HH
              refine wp_region_held_drew (S := Heap w [_, _]) (by kernel_rfl) (HHd.out.pair 4 1 rfl rfl rfl) (fun hHeld => ?_)
              generalize World.drew _ = wd2 at *
              refine tG 0 rfl (fun wT hST => sh_run_load hST sizeSto (by kernel_rfl) rfl rfl 0 rfl (Nat.le_of_ble_eq_true rfl)) hHeld ?_; (try simp only [Act.put, lyA, lyB, lyC])
              refine tS 1 ?_; (try simp only [Act.put, lyA, lyB, lyC])
              refine tS 2 ?_; (try simp only [Act.put, lyA, lyB, lyC])
              refine tS 3 ?_; (try simp only [Act.put, lyA, lyB, lyC])
              refine tG 4 rfl (fun wT hST => sh_run_load1 hST rfl rfl 1 rfl rfl (by kernel_rfl)) hHeld ?_; (try simp only [Act.put, lyA, lyB, lyC])
              clear hHeld
              refine oS 5 (fun K hK => ?_)
              refine sh_store HHd.out sizeSto rfl rfl rfl 6 rfl rfl (Nat.le_of_ble_eq_true rfl) rfl ?_
              intro w13 hh13
              have HH13 := Lib.hid hh13
              clear hh13 HHd
              refine hK.out _ _ (HH13.out.pair 4 1 rfl rfl rfl) (fun hHeld => ?_)
              clear hK K
              (try simp only [Act.put, lyA, lyB, lyC])
              clear hHeld
              refine oS 6 (fun K hK => ?_)
              refine sh_store1 HH13.out rfl rfl rfl 7 rfl (Nat.le_of_ble_eq_true rfl) rfl (by kernel_rfl) ?_
              intro w14 hh14
              have HH14 := Lib.hid hh14
              clear hh14 HH13
              refine hK.out _ _ (HH14.out.pair 4 1 rfl rfl rfl) (fun hHeld => ?_)
              clear hK K
              (try simp only [Act.put, lyA, lyB, lyC])
              clear hHeld
              refine oS 7 (fun K hK => ?_)
              refine sh_store1 HH14.out rfl rfl rfl 8 rfl (Nat.le_of_ble_eq_true rfl) rfl (by kernel_rfl) ?_
              intro w15 hh15
              have HH15 := Lib.hid hh15
              clear hh15 HH14
              refine hK.out _ _ (HH15.out.pair 4 1 rfl rfl rfl) (fun hHeld => ?_)
              clear hK K
              (try simp only [Act.put, lyA, lyB, lyC])
              refine wpAnyH_done (by kernel_rfl) ?_ _
              simp only [noP]
              clear hHeld
              go_wp2_with fail
              refine cm_idle (HH15.out.pick [6, 7, 8, 0, 1, 2, 3, 4, 5, 9] (by decide) rfl rfl) rfl rfl rfl ?_
              intro w16 h16
              obtain ⟨q81, q82⟩ := own_form2 (h16.rowAt 5 rfl)
              obtain ⟨q91, q92⟩ := own_form2 (h16.rowAt 8 rfl)
              refine HOut.out _ _ (.inr ⟨⟨⟨⟨eA, en, ec, ex⟩, ⟨gA, gn, gc, gx⟩⟩, ⟨ut + 1, y0, (n : Int)⟩, ⟨pA, os.length, pc, os⟩, ⟨jA, ys.length, jc, ys⟩⟩, acF, A8, c8, rfl, q81, q82, ⟨rfl, by simp only [maxLen] at q82; omega, (h16.rowRd 5 rfl).m0, HAin.out _ _ 6 h16 rfl⟩, ?_⟩)
              refine ⟨H01.out.1, H01.out.2, ⟨(fs, acts.map acAbs, os.map strip), ys, acts'.map acAbs, HPA.out, HPK.out, rfl, rfl, ?_, ?_⟩, HSv.out, HSn.out, ⟨(h16.lookAt 3 rfl).2.imp fun _ _ hr => hr.more HLe.out (h16.lookAt 3 rfl).1, HU2.out.2, ⟨rfl, q91, q92, h16.rowRd 8 rfl, fun o ho => (HOj3.out o ho).at_ h16 (j := 6) rfl⟩, ⟨rfl, j1, j2, by rw [ints_flat]; exact h16.bagRd (j := 6) rfl HAt3.out, fun y hy => ?_⟩⟩, h16.ext⟩
              · show (⟨ut + 1, y0, (n : Int)⟩ : Ub) = ⟨ut + 1, ys.getD 0 0, (xs.length : Int)⟩
                rw [← HY0.out, ← Hn.out]
              · rw [HAf.out, List.map_append]
                show _ = acts'.map acAbs ++ [(true, 0, []), (false, (ut + 1) % 2, ueB ⟨ut + 1, y0, (n : Int)⟩), (true, 0, [])]
                rw [← HSe.out, ← HUB.out]
                rfl
              · have h8 := HFt.out y hy
                simp only [Lit.wf, Bool.and_eq_true, decide_eq_true_eq]
                constructor
                · show (-9223372036854775808 : Int) ≤ y; omega
                · show y ≤ (9223372036854775807 : Int); omega
    · have HOut := Lib.hid (fun e w' => show _ → CmOut w s l.xs e w' from fun hh => .inl ⟨rtE s l.xs, .inr (.inl ⟨h0, h1, rfl⟩), hh⟩)
      generalize hE : rtE s l.xs = E at *
      rw [h0] at HC
      clear on onl h hs hl h0 hE
      have hb : (E != 0) = true := by simpa using h1
      obtain ⟨⟨⟨sA, sn, sc, sx⟩, ⟨qA, qn, qc, qx⟩⟩, ⟨ut, uf, uo⟩, ⟨oA, on, oc, ox⟩, ⟨iA, im, ic, ix⟩⟩ := s
      obtain ⟨lA, n, lc, xs⟩ := l
      simp only [Sto.cells, Sl.val] at *
      go_enter_defers Tryz.func20, Tryz.ntmps20
      go_upto_region 1 with fail
      generalize hwH : World.alloc (World.alloc (World.alloc (World.alloc w _) _) _) _ = w1
      have HH := Lib.hid (Heap.four hwH)
      clear hwH
      go_wp2_with (first | (refine shl_load HH.out sizeSto (by kernel_rfl) rfl rfl rfl 3 rfl rfl ?_) | (go_at_call 13; (with_reducible refine (HC.out _ HH.out.ext).mono ?_); rintro e wC ⟨rfl, eC⟩; have HHn := Lib.hid (HH.out.later eC); clear HH eC; have HH := HHn; clear HHn) | (go_at_call 52; (with_reducible refine (HRt.out _ HH.out.ext).mono ?_); rintro e wC ⟨rfl, eC⟩; have HHn := Lib.hid (HH.out.later eC); clear HH eC; have HH := HHn; clear HHn) | (refine shl_store HH.out sizeSto rfl rfl rfl rfl 2 rfl rfl rfl rfl ?_; clear HH; intro wS HHS; have HH := Lib.hid HHS; clear HHS) | (refine shl_store1 HH.out rfl rfl rfl rfl 1 rfl rfl rfl (by kernel_rfl) ?_; clear HH; intro wS HHS; have HH := Lib.hid HHS; clear HHS) | (refine shl_store1 HH.out rfl rfl rfl rfl 0 rfl rfl rfl (by kernel_rfl) ?_; clear HH; intro wS HHS; have HH := Lib.hid HHS; clear HHS))
      refine leave3 sizeSto (by kernel_rfl) (by kernel_rfl) (by kernel_rfl) HH.out rfl rfl rfl rfl 2 1 0 rfl rfl rfl rfl ?_
      exact HOut.out _ _ ⟨rfl, HH.out.ext⟩
  · have h9' : sCk s = 9 := by unfold sCk; rw [if_neg (fun q => h0 (by unfold sCk; rw [if_pos q]))]
    have HOut := Lib.hid (fun e w' => show _ → CmOut w s l.xs e w' from fun hh => .inl ⟨9, .inl ⟨h0, rfl⟩, hh⟩)
    rw [h9'] at HC
    clear on onl h hs hl h0 h9'
    obtain ⟨⟨⟨sA, sn, sc, sx⟩, ⟨qA, qn, qc, qx⟩⟩, ⟨ut, uf, uo⟩, ⟨oA, on, oc, ox⟩, ⟨iA, im, ic, ix⟩⟩ := s
    obtain ⟨lA, n, lc, xs⟩ := l
    simp only [Sto.cells, Sl.val] at *
    go_enter_defers Tryz.func20, Tryz.ntmps20
    go_upto_region 1 with fail
    generalize hwH : World.alloc (World.alloc (World.alloc (World.alloc w _) _) _) _ = w1
    have HH := Lib.hid (Heap.four hwH)
    clear hwH
    go_wp2_with (first | (refine shl_load HH.out sizeSto (by kernel_rfl) rfl rfl rfl 3 rfl rfl ?_) | (go_at_call 13; (with_reducible refine (HC.out _ HH.out.ext).mono ?_); rintro e wC ⟨rfl, eC⟩; have HHn := Lib.hid (HH.out.later eC); clear HH eC; have HH := HHn; clear HHn) | (refine shl_store HH.out sizeSto rfl rfl rfl rfl 2 rfl rfl rfl rfl ?_; clear HH; intro wS HHS; have HH := Lib.hid HHS; clear HHS) | (refine shl_store1 HH.out rfl rfl rfl rfl 1 rfl rfl rfl (by kernel_rfl) ?_; clear HH; intro wS HHS; have HH := Lib.hid HHS; clear HHS) | (refine shl_store1 HH.out rfl rfl rfl rfl 0 rfl rfl rfl (by kernel_rfl) ?_; clear HH; intro wS HHS; have HH := Lib.hid HHS; clear HHS))
    refine leave3 sizeSto (by kernel_rfl) (by kernel_rfl) (by kernel_rfl) HH.out rfl rfl rfl rfl 2 1 0 rfl rfl rfl rfl ?_
    exact HOut.out _ _ ⟨rfl, HH.out.ext⟩
end Go.Proofs.YtfongpdeflfioaaGreat
