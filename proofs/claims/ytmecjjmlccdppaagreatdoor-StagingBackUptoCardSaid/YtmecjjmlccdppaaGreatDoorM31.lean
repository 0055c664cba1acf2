/- The texts Apf, Psb in one file. -/
import Derived.Test.YtmecjjmlccdppaaGreatDoorM14
import Derived.Test.YtmecjjmlccdppaaGreatDoorM20
import Derived.Test.YtmecjjmlccdppaaGreatDoorM29
import Derived.Test.YtmecjjmlccdppaaGreatDoorM21
/- What Diff tells of two contents makes the second of the first: the plain law. -/
namespace Go.Proofs.YtmecjjmlccdppaaGreatDoor
open Go.RowKit
set_option linter.unusedVariables false
set_option linter.unusedSimpArgs false

def lk (xs : List Blk) (i : Int) : Option ByteArray := (xs.find? fun x => decide (x.index = i)).map Blk.data
theorem lk_nil (i : Int) : lk [] i = none := rfl
theorem lk_cons (x : Blk) (l : List Blk) (i : Int) : lk (x :: l) i = if x.index = i then some x.data else lk l i := by
  unfold lk
  rw [List.find?_cons]
  by_cases h : x.index = i <;> simp [h]
theorem lk_none {l : List Blk} {i : Int} (h : ∀ x ∈ l, x.index ≠ i) : lk l i = none := by
  induction l with
  | nil => rfl
  | cons x l ih => rw [lk_cons, if_neg (h x (by simp)), ih (fun y hy => h y (by simp [hy]))]
/-- a content that may be -/
def Srt (xs : List Blk) : Prop := xs.Pairwise (fun a b => a.index < b.index) ∧ ∀ x ∈ xs, 0 ≤ x.index ∧ x.index < 1024 ∧ x.data.size = 16
theorem srt_of {xs : List Blk} (h : bkE xs = 0) : Srt xs := by
  refine ⟨?_, bk_in h⟩
  have hr := rises_of xs h
  rw [List.pairwise_iff_getElem]
  intro i j hi hj hij
  exact hr i j hij hj
theorem of_srt {xs : List Blk} (h : Srt xs) : bkE xs = 0 := by
  unfold bkE
  rw [if_neg]
  intro hb
  obtain ⟨k, hk, hbad⟩ := List.any_eq_true.1 hb
  have hk := List.mem_range.1 hk
  rw [bkBad_at xs k hk] at hbad
  have h1 := h.2 xs[k] (List.getElem_mem hk)
  simp only [Bool.or_eq_true, badOne, decide_eq_true_eq, Bool.and_eq_true] at hbad
  rcases hbad with h2 | ⟨h2, h3⟩
  · omega
  · rw [ixAt_at xs (k - 1) (by omega)] at h3
    have := (List.pairwise_iff_getElem.1 h.1) (k - 1) k (by omega) hk (by omega)
    omega
theorem srt_cons {x : Blk} {l : List Blk} : Srt (x :: l) ↔ (0 ≤ x.index ∧ x.index < 1024 ∧ x.data.size = 16) ∧ (∀ y ∈ l, x.index < y.index) ∧ Srt l := by
  unfold Srt
  rw [List.pairwise_cons]
  constructor
  · rintro ⟨⟨h1, h2⟩, h3⟩
    exact ⟨h3 x (by simp), h1, h2, fun y hy => h3 y (by simp [hy])⟩
  · rintro ⟨h1, h2, h3, h4⟩
    refine ⟨⟨h2, h3⟩, fun y hy => ?_⟩
    rcases List.mem_cons.1 hy with rfl | hy
    · exact h1
    · exact h4 y hy
theorem srt_nil : Srt [] := ⟨List.Pairwise.nil, fun x hx => by cases hx⟩
theorem lk_head {x : Blk} {l : List Blk} (h : Srt (x :: l)) (j : Int) (hj : j < x.index) : lk (x :: l) j = none := by
  refine lk_none fun y hy => ?_
  rcases List.mem_cons.1 hy with rfl | hy
  · omega
  · have := (srt_cons.1 h).2.1 y hy
    omega
theorem srt_ext : ∀ {xs ys : List Blk}, Srt xs → Srt ys → (∀ j, lk xs j = lk ys j) → xs = ys
  | [], [], _, _, _ => rfl
  | [], y :: ys, _, _, h => by have := h y.index; rw [lk_nil, lk_cons, if_pos rfl] at this; cases this
  | x :: xs, [], _, _, h => by have := h x.index; rw [lk_nil, lk_cons, if_pos rfl] at this; cases this
  | x :: xs, y :: ys, hx, hy, h => by
    have hx' := srt_cons.1 hx
    have hy' := srt_cons.1 hy
    have e : x.index = y.index := by
      rcases Int.lt_trichotomy x.index y.index with h1 | h1 | h1
      · have := h x.index
        rw [lk_head hy _ h1, lk_cons, if_pos rfl] at this
        cases this
      · exact h1
      · have := h y.index
        rw [lk_head hx _ h1, lk_cons, if_pos rfl] at this
        cases this
    have e2 : x.data = y.data := by
      have := h x.index
      rw [lk_cons, if_pos rfl, lk_cons, if_pos e.symm] at this
      exact Option.some.inj this
    have e3 : x = y := by cases x; cases y; simp_all
    subst e3
    congr 1
    refine srt_ext hx'.2.2 hy'.2.2 fun j => ?_
    by_cases hj : x.index = j
    · rw [lk_none fun z hz => by have := hx'.2.1 z hz; omega, lk_none fun z hz => by have := hy'.2.1 z hz; omega]
    · have := h j
      rwa [lk_cons, if_neg hj, lk_cons, if_neg hj] at this
def pt' (i : Int) (d : ByteArray) (xs : List Blk) : List Blk := xs.takeWhile (ahead i) ++ [⟨i, d⟩] ++ less i (xs.dropWhile (ahead i))
theorem pt_nil (i : Int) (d : ByteArray) : pt' i d [] = [⟨i, d⟩] := rfl
theorem pt_cons (i : Int) (d : ByteArray) (x : Blk) (l : List Blk) : pt' i d (x :: l) = if x.index < i then x :: pt' i d l else if x.index = i then ⟨i, d⟩ :: l else ⟨i, d⟩ :: x :: l := by
  unfold pt'
  by_cases h : x.index < i
  · rw [if_pos h]
    simp [List.takeWhile_cons, List.dropWhile_cons, ahead, h]
  · rw [if_neg h]
    have ha : ahead i x = false := by simpa [ahead] using h
    rw [List.takeWhile_cons, List.dropWhile_cons, ha]
    simp only [Bool.false_eq_true, if_false, List.nil_append, less]
    split <;> rfl
theorem pt_mem (i : Int) (d : ByteArray) : ∀ (xs : List Blk) (y : Blk), y ∈ pt' i d xs → y = ⟨i, d⟩ ∨ y ∈ xs
  | [], y, h => by simpa [pt_nil] using h
  | x :: l, y, h => by
    rw [pt_cons] at h
    split at h
    · rcases List.mem_cons.1 h with rfl | h
      · exact .inr (by simp)
      · rcases pt_mem i d l y h with h | h
        · exact .inl h
        · exact .inr (by simp [h])
    · split at h
      · rcases List.mem_cons.1 h with rfl | h
        · exact .inl rfl
        · exact .inr (by simp [h])
      · rcases List.mem_cons.1 h with rfl | h
        · exact .inl rfl
        · exact .inr h
theorem pt_srt {i : Int} {d : ByteArray} (hi : 0 ≤ i ∧ i < 1024) (hd : d.size = 16) : ∀ {xs : List Blk}, Srt xs → Srt (pt' i d xs)
  | [], _ => by rw [pt_nil, srt_cons]; exact ⟨⟨hi.1, hi.2, hd⟩, fun y hy => (by cases hy), srt_nil⟩
  | x :: l, h => by
    obtain ⟨h1, h2, h3⟩ := srt_cons.1 h
    rw [pt_cons]
    split
    · rename_i hlt
      rw [srt_cons]
      refine ⟨h1, fun y hy => ?_, pt_srt hi hd h3⟩
      rcases pt_mem i d l y hy with rfl | hy
      · exact hlt
      · exact h2 y hy
    · split
      · rename_i he
        rw [srt_cons]
        refine ⟨⟨hi.1, hi.2, hd⟩, fun y hy => ?_, h3⟩
        have := h2 y hy
        show i < y.index
        omega
      · rename_i h4 h5
        rw [srt_cons]
        refine ⟨⟨hi.1, hi.2, hd⟩, fun y hy => ?_, h⟩
        show i < y.index
        rcases List.mem_cons.1 hy with rfl | hy
        · omega
        · have := h2 y hy
          omega
theorem pt_lk {i : Int} {d : ByteArray} (j : Int) : ∀ {xs : List Blk}, lk (pt' i d xs) j = if j = i then some d else lk xs j
  | [] => by
    rw [pt_nil, lk_cons, lk_nil]
    by_cases h : j = i
    · rw [if_pos h, if_pos h.symm]
    · rw [if_neg h, if_neg (fun e => h e.symm)]
  | x :: l => by
    have ih := pt_lk (i := i) (d := d) j (xs := l)
    rw [pt_cons]
    by_cases hj : j = i
    · subst hj
      rw [if_pos rfl] at ih ⊢
      split
      · rename_i h
        rw [lk_cons, if_neg (by omega), ih]
      · split <;> (rw [lk_cons]; exact if_pos rfl)
    · have hj' : ¬ i = j := fun e => hj e.symm
      rw [if_neg hj] at ih ⊢
      split
      · rw [lk_cons, lk_cons, ih]
      · split
        · rename_i h
          rw [lk_cons, lk_cons, if_neg (show ¬ (⟨i, d⟩ : Blk).index = j from hj'), if_neg (by omega)]
        · rw [lk_cons, if_neg (show ¬ (⟨i, d⟩ : Blk).index = j from hj')]
theorem ptd_eq {xs : List Blk} {i : Int} {d : ByteArray} (h : Srt xs) (hi : 0 ≤ i ∧ i < 1024) (hd : d.size = 16) : ptd xs i d = pt' i d xs := by
  have hE : ptE xs i d = 0 := by
    unfold ptE ptBad
    rw [if_neg (by rw [of_srt h]; simp), if_neg (by simp; omega), if_neg (by omega)]
  rw [ptd, if_pos hE]
  rfl
theorem frd_eq {xs : List Blk} {i c : Int} (h : Srt xs) (hi : 0 ≤ i) (hc : 1 ≤ c) (hic : i + c ≤ 1024) : frd xs i c = xs.filter (stays i c) := by
  have hE : frE xs i c = 0 := by
    unfold frE frBad
    rw [if_neg (by rw [of_srt h]; simp), if_neg (by simp; omega)]
  rw [frd, if_pos hE]
theorem fr_srt {xs : List Blk} {i c : Int} (h : Srt xs) : Srt (xs.filter (stays i c)) :=
  ⟨h.1.filter _, fun x hx => h.2 x (List.mem_filter.1 hx).1⟩
theorem fr_lk {i c : Int} (j : Int) : ∀ {xs : List Blk}, lk (xs.filter (stays i c)) j = if i ≤ j ∧ j < i + c then none else lk xs j
  | [] => by simp [lk_nil]
  | x :: l => by
    have ih := fr_lk (i := i) (c := c) j (xs := l)
    rw [List.filter_cons]
    by_cases hs : stays i c x = true
    · rw [if_pos hs, lk_cons, lk_cons, ih]
      have h' : x.index < i ∨ i + c ≤ x.index := by simpa [stays] using hs
      by_cases hj : x.index = j
      · rw [if_pos hj, if_pos hj, if_neg (by omega)]
      · rw [if_neg hj, if_neg hj]
    · rw [if_neg hs, lk_cons, ih]
      have h' : ¬ (x.index < i ∨ i + c ≤ x.index) := by simpa [stays] using hs
      by_cases hj : x.index = j
      · rw [if_pos (by omega), if_pos (by omega)]
      · rw [if_neg hj]
/-- a content behind a record -/
def apR (xs : List Blk) (r : Rec) : List Blk := if r.kind = 2 then ptd xs r.index r.data else if r.kind = 3 then frd xs r.index r.count else xs
def okR (r : Rec) : Prop := (∃ i d, r = rec2 i d ∧ 0 ≤ i ∧ i < 1024 ∧ d.size = 16) ∨ ∃ i c, r = rec3 i c ∧ 0 ≤ i ∧ 1 ≤ c ∧ i + c ≤ 1024
def nxR (r : Rec) : Int := if r.kind = 2 then r.index + 1 else r.index + r.count
def Ch : Int → List Rec → Prop
  | _, [] => True
  | n, r :: l => n ≤ r.index ∧ Ch (nxR r) l
def enR (n : Int) (l : List Rec) : Int := l.foldl (fun _ r => nxR r) n
theorem ch_snoc {r : Rec} : ∀ {l : List Rec} {n : Int}, Ch n (l ++ [r]) ↔ Ch n l ∧ enR n l ≤ r.index
  | [], n => by simp [Ch, enR]
  | x :: l, n => by
    have ih := ch_snoc (r := r) (l := l) (n := nxR x)
    simp only [List.cons_append, Ch, ih, enR, List.foldl_cons]
    constructor
    · rintro ⟨h1, h2, h3⟩; exact ⟨⟨h1, h2⟩, h3⟩
    · rintro ⟨⟨h1, h2⟩, h3⟩; exact ⟨h1, h2, h3⟩
theorem enR_snoc (n : Int) (l : List Rec) (r : Rec) : enR n (l ++ [r]) = nxR r := by simp [enR]
theorem apR_ok {xs : List Blk} {r : Rec} (h : Srt xs) (hr : okR r) : Srt (apR xs r) := by
  rcases hr with ⟨i, d, rfl, h1, h2, h3⟩ | ⟨i, c, rfl, h1, h2, h3⟩
  · show Srt (ptd xs i d)
    rw [ptd_eq h ⟨h1, h2⟩ h3]
    exact pt_srt ⟨h1, h2⟩ h3 h
  · show Srt (frd xs i c)
    rw [frd_eq h h1 h2 h3]
    exact fr_srt h
theorem apR_lk2 {xs : List Blk} {i : Int} {d : ByteArray} (h : Srt xs) (h1 : 0 ≤ i) (h2 : i < 1024) (h3 : d.size = 16) (j : Int) : lk (apR xs (rec2 i d)) j = if j = i then some d else lk xs j := by
  show lk (ptd xs i d) j = _
  rw [ptd_eq h ⟨h1, h2⟩ h3, pt_lk]
theorem apR_lk3 {xs : List Blk} {i c : Int} (h : Srt xs) (h1 : 0 ≤ i) (h2 : 1 ≤ c) (h3 : i + c ≤ 1024) (j : Int) : lk (apR xs (rec3 i c)) j = if i ≤ j ∧ j < i + c then none else lk xs j := by
  show lk (frd xs i c) j = _
  rw [frd_eq h h1 h2 h3, fr_lk]
structure DInv (a0 b0 a b : List Blk) (s : Dfr) (m : Int) : Prop where
  ok : ∀ r ∈ s.out, okR r
  ch : Ch 0 s.out
  en : enR 0 s.out ≤ m
  m0 : 0 ≤ m
  last : ∀ o l, s.out = o ++ [l] → l.kind = 3 → l.index + l.count = s.last + 1
  srt : ∀ k, k ≤ s.out.length → Srt ((s.out.take k).foldl apR a0)
  lkm : ∀ j, lk (s.out.foldl apR a0) j = if j < m then lk b0 j else lk a0 j
  am : ∀ x ∈ a, m ≤ x.index
  bm : ∀ x ∈ b, m ≤ x.index
  al : ∀ j, m ≤ j → lk a0 j = lk a j
  bl : ∀ j, m ≤ j → lk b0 j = lk b j
  sa : Srt a
  sb : Srt b
theorem DInv.now {a0 b0 a b : List Blk} {s : Dfr} {m : Int} (h : DInv a0 b0 a b s m) : Srt (s.out.foldl apR a0) := by
  have := h.srt s.out.length (Nat.le_refl _)
  rwa [List.take_length] at this
theorem lkstep {a0 b0 : List Blk} {L L' : List Blk} {m i : Int} (hm : m ≤ i) (h : ∀ j, lk L j = if j < m then lk b0 j else lk a0 j) (hn : ∀ j, lk L' j = if j = i then lk b0 i else lk L j) (hg : ∀ j, m ≤ j → j < i → lk a0 j = lk b0 j) (j : Int) :
    lk L' j = if j < i + 1 then lk b0 j else lk a0 j := by
  rw [hn j]
  by_cases h1 : j = i
  · subst h1
    rw [if_pos rfl, if_pos (by omega)]
  · rw [if_neg h1, h j]
    by_cases h2 : j < m
    · rw [if_pos h2, if_pos (by omega)]
    · rw [if_neg h2]
      by_cases h3 : j < i + 1
      · rw [if_pos h3]; exact hg j (by omega) (by omega)
      · rw [if_neg h3]
theorem srt_take {a0 : List Blk} {l : List Rec} {r : Rec} (h : ∀ k, k ≤ l.length → Srt ((l.take k).foldl apR a0)) (hr : Srt ((l ++ [r]).foldl apR a0)) : ∀ k, k ≤ (l ++ [r]).length → Srt (((l ++ [r]).take k).foldl apR a0) := by
  intro k hk
  rw [List.length_append, List.length_cons, List.length_nil] at hk
  rcases Nat.lt_or_ge k (l.length + 1) with h1 | h1
  · rw [List.take_append_of_le_length (by omega)]
    exact h k (by omega)
  · rw [List.take_of_length_le (by rw [List.length_append, List.length_cons, List.length_nil]; omega)]
    exact hr
theorem goneInv {a0 b0 a b : List Blk} {s : Dfr} {m : Int} {x : Blk} (h : DInv a0 b0 (x :: a) b s m) (hb : ∀ y ∈ b, x.index < y.index) : DInv a0 b0 a b (goneS s x.index) (x.index + 1) := by
  obtain ⟨hx1, hx2, hx3⟩ := srt_cons.1 h.sa
  have hm := h.am x (by simp)
  have hb0 : lk b0 x.index = none := by rw [h.bl _ hm]; exact lk_none fun y hy => by have := hb y hy; omega
  have hg : ∀ j, m ≤ j → j < x.index → lk a0 j = lk b0 j := fun j h1 h2 => by
    rw [h.al j h1, h.bl j h1, lk_head h.sa j h2, lk_none fun y hy => by have := hb y hy; omega]
  have hal : ∀ j, x.index + 1 ≤ j → lk a0 j = lk a j := fun j hj => by rw [h.al j (by omega), lk_cons, if_neg (by omega)]
  have hS := h.now
  have hnew : okR (rec3 x.index 1) := .inr ⟨x.index, 1, rfl, hx1.1, by omega, by omega⟩
  have hput : Ch 0 (s.out ++ [rec3 x.index 1]) := ch_snoc.2 ⟨h.ch, by have := h.en; show _ ≤ x.index; omega⟩
  have hlk : ∀ j, lk ((s.out ++ [rec3 x.index 1]).foldl apR a0) j = if j = x.index then lk b0 x.index else lk (s.out.foldl apR a0) j := fun j => by
    rw [List.foldl_append, List.foldl_cons, List.foldl_nil, apR_lk3 hS hx1.1 (by omega) (by omega), hb0]
    by_cases hj : j = x.index
    · rw [if_pos (by omega), if_pos hj]
    · rw [if_neg (by omega), if_neg hj]
  have hfresh : DInv a0 b0 a b ⟨s.out ++ [rec3 x.index 1], x.index⟩ (x.index + 1) :=
    ⟨fun r hr => by
      rcases List.mem_append.1 hr with hr | hr
      · exact h.ok r hr
      · rw [List.mem_singleton.1 hr]; exact hnew, hput, by rw [enR_snoc]; show x.index + 1 ≤ _; omega, by omega, fun o l ho hk => by
      obtain ⟨_, e⟩ := List.append_inj' ho rfl
      cases e
      rfl, srt_take h.srt (by rw [List.foldl_append]; exact apR_ok hS hnew), lkstep hm h.lkm hlk hg, fun y hy => by have := hx2 y hy; omega, fun y hy => by have := hb y hy; omega, hal, fun j hj => h.bl j (by omega), hx3, h.sb⟩
  rcases List.eq_nil_or_concat s.out with ho | ⟨o, l, ho⟩
  · obtain ⟨out, last⟩ := s
    dsimp only at ho
    subst ho
    exact hfresh
  · rw [List.concat_eq_append] at ho
    have hs : goneS s x.index = ⟨if l.kind = 3 ∧ s.last = x.index - 1 then o ++ [{ l with count := l.count + 1 }] else o ++ [l] ++ [rec3 x.index 1], x.index⟩ := by
      obtain ⟨out, last⟩ := s
      dsimp only at ho
      subst ho
      exact goneS_snoc o l last x.index
    rw [hs]
    by_cases hc : l.kind = 3 ∧ s.last = x.index - 1
    · rw [if_pos hc]
      have hl := h.last o l ho hc.1
      have hlo := h.ok l (by rw [ho]; simp)
      rcases hlo with ⟨i, d, rfl, _⟩ | ⟨i, c, rfl, h1, h2, h3⟩
      · exact absurd hc.1 (by simp [rec2])
      · have hl : i + c = s.last + 1 := hl
        have hic : i + c = x.index := by omega
        have e1 : ({ rec3 i c with count := (rec3 i c).count + 1 } : Rec) = rec3 i (c + 1) := rfl
        rw [e1]
        have hch := ch_snoc.1 (ho ▸ h.ch)
        have hSo : Srt (o.foldl apR a0) := by
          have := h.srt o.length (by rw [ho]; simp)
          rwa [ho, List.take_left] at this
        have hok2 : okR (rec3 i (c + 1)) := .inr ⟨i, c + 1, rfl, h1, by omega, by omega⟩
        have hlk2 : ∀ j, lk ((o ++ [rec3 i (c + 1)]).foldl apR a0) j = if j = x.index then lk b0 x.index else lk (s.out.foldl apR a0) j := fun j => by
          rw [ho, List.foldl_append, List.foldl_append, List.foldl_cons, List.foldl_nil, List.foldl_cons, List.foldl_nil, apR_lk3 hSo h1 (by omega) (by omega), apR_lk3 hSo h1 h2 h3, hb0]
          by_cases hj : j = x.index
          · rw [if_pos (by omega), if_pos hj]
          · rw [if_neg hj]
            by_cases hj2 : i ≤ j ∧ j < i + c
            · rw [if_pos (by omega), if_pos hj2]
            · rw [if_neg (by omega), if_neg hj2]
        exact ⟨fun r hr => by
          rcases List.mem_append.1 hr with hr | hr
          · exact h.ok r (by rw [ho]; simp [hr])
          · rw [List.mem_singleton.1 hr]; exact hok2, ch_snoc.2 ⟨hch.1, hch.2⟩, by rw [enR_snoc]; show i + (c + 1) ≤ _; omega, by omega, fun o' l' ho' hk => by
          obtain ⟨_, e⟩ := List.append_inj' ho' rfl
          cases e
          show i + (c + 1) = x.index + 1
          omega, srt_take (fun k hk => by
            have := h.srt k (by rw [ho]; simp; omega)
            rwa [ho, List.take_append_of_le_length hk] at this) (by rw [List.foldl_append]; exact apR_ok hSo hok2), lkstep hm h.lkm hlk2 hg, fun y hy => by have := hx2 y hy; omega, fun y hy => by have := hb y hy; omega, hal, fun j hj => h.bl j (by omega), hx3, h.sb⟩
    · rw [if_neg hc, ← ho]
      exact hfresh
theorem put_lk {a0 b0 : List Blk} {s : Dfr} {y : Blk} (hS : Srt (s.out.foldl apR a0)) (hy : 0 ≤ y.index ∧ y.index < 1024 ∧ y.data.size = 16) (hb0 : lk b0 y.index = some y.data) :
    ∀ j, lk ((s.out ++ [rec2 y.index y.data]).foldl apR a0) j = if j = y.index then lk b0 y.index else lk (s.out.foldl apR a0) j := fun j => by
  rw [List.foldl_append, List.foldl_cons, List.foldl_nil, apR_lk2 hS hy.1 hy.2.1 hy.2.2, hb0]
theorem putInv {a0 b0 a a' b : List Blk} {s : Dfr} {m : Int} {y : Blk} (h : DInv a0 b0 a' (y :: b) s m) (ha : ∀ x ∈ a, y.index < x.index) (hsa : Srt a) (hal : ∀ j, y.index + 1 ≤ j → lk a0 j = lk a j)
    (hg : ∀ j, m ≤ j → j < y.index → lk a0 j = none) : DInv a0 b0 a b (putS s y) (y.index + 1) := by
  obtain ⟨hy1, hy2, hy3⟩ := srt_cons.1 h.sb
  have hm := h.bm y (by simp)
  have hS := h.now
  have hb0 : lk b0 y.index = some y.data := by rw [h.bl _ hm, lk_cons, if_pos rfl]
  have hnew : okR (rec2 y.index y.data) := .inl ⟨y.index, y.data, rfl, hy1.1, hy1.2.1, hy1.2.2⟩
  exact ⟨fun r hr => by
      rcases List.mem_append.1 hr with hr | hr
      · exact h.ok r hr
      · rw [List.mem_singleton.1 hr]; exact hnew, ch_snoc.2 ⟨h.ch, by have := h.en; show _ ≤ y.index; omega⟩, by show enR 0 (s.out ++ _) ≤ _; rw [enR_snoc]; show y.index + 1 ≤ _; omega, by omega, fun o l ho hk => by
      obtain ⟨_, e⟩ := List.append_inj' (show s.out ++ [rec2 y.index y.data] = o ++ [l] from ho) rfl
      cases e
      exact absurd hk (by simp [rec2]), srt_take h.srt (by rw [List.foldl_append]; exact apR_ok hS hnew), lkstep hm h.lkm (put_lk hS hy1 hb0) (fun j h1 h2 => by rw [hg j h1 h2, h.bl j h1, lk_head h.sb j h2]), fun x hx => by have := ha x hx; omega, fun x hx => by have := hy2 x hx; omega, hal, fun j hj => by rw [h.bl j (by omega), lk_cons, if_neg (by omega)], hsa, hy3⟩
theorem dif_inv (a0 b0 : List Blk) : ∀ (n : Nat) (a b : List Blk) (s : Dfr) (m : Int), a.length + b.length ≤ n → DInv a0 b0 a b s m → ∃ m', DInv a0 b0 [] [] (dif a b s) m'
  | 0, a, b, s, m, hn, h => by
    obtain rfl : a = [] := List.eq_nil_of_length_eq_zero (by omega)
    obtain rfl : b = [] := List.eq_nil_of_length_eq_zero (by omega)
    exact ⟨m, by rw [dif]; exact h⟩
  | n + 1, [], [], s, m, _, h => ⟨m, by rw [dif]; exact h⟩
  | n + 1, x :: a, [], s, m, hn, h => by
    rw [dif]
    exact dif_inv a0 b0 n a [] _ _ (by simp at hn ⊢; omega) (goneInv h fun y hy => by cases hy)
  | n + 1, [], y :: b, s, m, hn, h => by
    rw [dif]
    exact dif_inv a0 b0 n [] b _ _ (by simp at hn ⊢; omega) (putInv h (fun x hx => by cases hx) h.sa (fun j hj => h.al j (by have := h.bm y (by simp); omega)) fun j h1 _ => by rw [h.al j h1]; rfl)
  | n + 1, x :: a, y :: b, s, m, hn, h => by
    obtain ⟨hx1, hx2, hx3⟩ := srt_cons.1 h.sa
    obtain ⟨hy1, hy2, hy3⟩ := srt_cons.1 h.sb
    have hmx := h.am x (by simp)
    have hmy := h.bm y (by simp)
    rw [dif]
    by_cases h1 : x.index < y.index
    · rw [if_pos h1]
      exact dif_inv a0 b0 n a (y :: b) _ _ (by simp at hn ⊢; omega) (goneInv h fun z hz => by
        rcases List.mem_cons.1 hz with rfl | hz
        · exact h1
        · have := hy2 z hz; omega)
    · rw [if_neg h1]
      by_cases h2 : y.index < x.index
      · rw [if_pos h2]
        exact dif_inv a0 b0 n (x :: a) b _ _ (by simp at hn ⊢; omega) (putInv h (fun z hz => by
          rcases List.mem_cons.1 hz with rfl | hz
          · exact h2
          · have := hx2 z hz; omega) h.sa (fun j hj => h.al j (by omega)) fun j h3 h4 => by rw [h.al j h3, lk_head h.sa j (by omega)])
      · rw [if_neg h2]
        have he : x.index = y.index := by omega
        have hal : ∀ j, y.index + 1 ≤ j → lk a0 j = lk a j := fun j hj => by rw [h.al j (by omega), lk_cons, if_neg (by omega)]
        have hP := putInv h (a := a) (fun z hz => by have := hx2 z hz; omega) hx3 hal fun j h3 h4 => by rw [h.al j h3, lk_head h.sa j (by omega)]
        refine dif_inv a0 b0 n a b _ (y.index + 1) (by simp at hn ⊢; omega) ?_
        by_cases hxy : x = y
        · rw [if_pos hxy]
          subst hxy
          exact ⟨h.ok, h.ch, by have := h.en; omega, by omega, h.last, h.srt, lkstep hmx h.lkm (fun j => by
            by_cases hj : j = x.index
            · subst hj
              rw [if_pos rfl, h.lkm, if_neg (by omega), h.al _ hmx, h.bl _ hmx, lk_cons, if_pos rfl, lk_cons, if_pos rfl]
            · rw [if_neg hj]) fun j h3 h4 => by rw [h.al j h3, h.bl j h3, lk_head h.sa j h4, lk_head h.sb j h4], fun z hz => by have := hx2 z hz; omega, fun z hz => by have := hy2 z hz; omega, hal, fun j hj => by rw [h.bl j (by omega), lk_cons, if_neg (by omega)], hx3, hy3⟩
        · rw [if_neg hxy]
          exact hP
/-- what Diff's records are -/
structure DifL (a b : List Blk) (l : List Rec) : Prop where
  ok : ∀ r ∈ l, okR r
  ch : Ch 0 l
  en : enR 0 l ≤ 1024
  num : l.length ≤ 1024
  srt : ∀ k, k ≤ l.length → Srt ((l.take k).foldl apR a)
  out : l.foldl apR a = b
theorem okR_next {r : Rec} (h : okR r) : 0 ≤ r.index ∧ r.index < 1024 ∧ r.index + 1 ≤ nxR r ∧ nxR r ≤ 1024 := by
  rcases h with ⟨i, d, rfl, h1, h2, h3⟩ | ⟨i, c, rfl, h1, h2, h3⟩
  · show 0 ≤ i ∧ i < 1024 ∧ i + 1 ≤ i + 1 ∧ i + 1 ≤ 1024
    omega
  · show 0 ≤ i ∧ i < 1024 ∧ i + 1 ≤ i + c ∧ i + c ≤ 1024
    omega
theorem ch_len : ∀ (l : List Rec) (n : Int), (∀ r ∈ l, okR r) → Ch n l → 0 ≤ n → n ≤ 1024 → n + l.length ≤ enR n l ∧ enR n l ≤ 1024
  | [], n, _, _, h0, h1 => by simp [enR]; omega
  | r :: l, n, hok, hc, h0, h1 => by
    have hr := okR_next (hok r (by simp))
    have ih := ch_len l (nxR r) (fun x hx => hok x (by simp [hx])) hc.2 (by omega) hr.2.2.2
    have := hc.1
    simp only [enR, List.foldl_cons, List.length_cons] at ih ⊢
    omega
theorem dfL_ok (a b : List Blk) (ha : Srt a) (hb : Srt b) : DifL a b (dif a b ⟨[], -2⟩).out := by
  have h0 : DInv a b a b ⟨[], -2⟩ 0 := ⟨fun r hr => (by cases hr), trivial, Int.le_refl _, Int.le_refl _, fun o l ho => by simp at ho, fun k hk => by
    obtain rfl : k = 0 := by simpa using hk
    exact ha, fun j => by
    show lk a j = _
    by_cases hj : j < 0
    · rw [if_pos hj, lk_none fun x hx => by have := ha.2 x hx; omega, lk_none fun x hx => by have := hb.2 x hx; omega]
    · rw [if_neg hj], fun x hx => (ha.2 x hx).1, fun x hx => (hb.2 x hx).1, fun j _ => rfl, fun j _ => rfl, ha, hb⟩
  obtain ⟨m, h⟩ := dif_inv a b _ a b ⟨[], -2⟩ 0 (Nat.le_refl _) h0
  have hl := ch_len _ 0 h.ok h.ch (by omega) (by omega)
  refine ⟨h.ok, h.ch, hl.2, by omega, h.srt, srt_ext h.now hb fun j => ?_⟩
  rw [h.lkm]
  split
  · rfl
  · rename_i hj
    rw [h.al j (by omega), h.bl j (by omega)]
theorem orL_zero {a b : Int} (h : orL [a, b] = 0) : a = 0 ∧ b = 0 := by
  simp only [orL] at h
  split at h
  · rename_i ha
    split at h
    · rename_i hb; exact ⟨ha, hb⟩
    · exact ⟨ha, h⟩
  · rename_i ha; exact absurd h ha
theorem dfL_any (a b : List Blk) (h : dfE a b = 0) : DifL a b (dfL a b) := by
  obtain ⟨h1, h2⟩ := orL_zero h
  rw [dfL, if_pos h]
  exact dfL_ok a b (srt_of h1) (srt_of h2)
theorem okR_rec {r : Rec} (h : okR r) : recE r = 0 ∧ r.wf ∧ (sumR r).wf ∧ r.oA = none ∧ r.on = 0 ∧ r.own = [] := by
  rcases h with ⟨i, d, rfl, h1, h2, h3⟩ | ⟨i, c, rfl, h1, h2, h3⟩
  · refine ⟨?_, ⟨?_, ?_, ?_, ?_, ?_, ?_, ?_, ?_, ?_, ?_⟩, ?_, rfl, rfl, rfl⟩
    · simp [recE, rec2, mayB, sumZ]; exact ⟨decide_eq_true h1, decide_eq_true h2, decide_eq_true h3⟩
    all_goals (simp [rec2, sumR, Su.wf]; try (first | omega | decide))
  · refine ⟨?_, ⟨?_, ?_, ?_, ?_, ?_, ?_, ?_, ?_, ?_, ?_⟩, ?_, rfl, rfl, rfl⟩
    · simp [recE, rec3, mayB, sumZ]; exact ⟨decide_eq_true h1, decide_eq_true (by omega), decide_eq_true h2, decide_eq_true (by omega)⟩
    all_goals (simp [rec3, sumR, Su.wf]; try (first | omega | decide))
end Go.Proofs.YtmecjjmlccdppaaGreatDoor
/- A record comes back from its octets, with octets behind them: the plain law. -/
namespace Go.Proofs.YtmecjjmlccdppaaGreatDoor
open Go.RowKit
set_option linter.unusedVariables false
set_option linter.unusedSimpArgs false

theorem empty_toList {s : ByteArray} (h : s.toList = []) : s = ⟨#[]⟩ := by
  refine empty_of s ?_
  rw [← len_data, ← ByteArray.toList_eq, h]
  rfl
theorem kind_byte (k : Int) (h : 1 ≤ k ∧ k ≤ 4) : ((UInt8.ofNat k.toNat).toNat : Int) = k := by
  rcases (show k = 1 ∨ k = 2 ∨ k = 3 ∨ k = 4 by omega) with rfl | rfl | rfl | rfl <;> rfl
theorem stT_cons (s : ByteArray) (l : List ByteArray) (b : Bool) : stT (s :: l, b) = (s, l, b) := rfl
theorem fV_num8 (z : Int) (h : 0 ≤ z ∧ z ≤ 4611686018427387903) : fV (num8 z) = z ∧ fE (num8 z) = 0 := by
  obtain ⟨h1, h2⟩ := num_back z (by omega) (by omega)
  have e : (num8 z).data.toList = puts z 8 := by simp [num8]
  have hs := num8_size z
  unfold fV fE
  rw [e, hs, if_neg (by omega), if_neg (by omega), if_neg (by omega), if_neg (by omega), h1, if_neg (by omega)]
  exact ⟨h2 (by omega), rfl⟩
theorem stN_cons (z : Int) (h : 0 ≤ z ∧ z ≤ 4611686018427387903) (l : List ByteArray) (b : Bool) : stN (num8 z :: l, b) = (z, l, b) := by
  obtain ⟨h1, h2⟩ := fV_num8 z h
  simp [stN, stT_cons, h1, h2]
theorem pairs_ptext : ∀ (xs : List Prp), pairs (ptext xs) = (xs, true)
  | [] => rfl
  | p :: xs => by
    have ih := pairs_ptext xs
    show pairs (p.name :: p.value :: ptext xs) = _
    rw [pairs, ih]
theorem part8_sumO (su : Su) (h : su.wf) : part8 (sumO su) 0 = su.a ∧ part8 (sumO su) 1 = su.b ∧ part8 (sumO su) 2 = su.c ∧ part8 (sumO su) 3 = su.d := by
  have hp : (256 : Int) ^ 8 = 18446744073709551616 := by decide
  have one (z : Int) (hz : 0 ≤ z ∧ z ≤ 18446744073709551615) : (val (puts z 8) : Int) = z := by
    rw [val_puts z 8, hp]
    omega
  have l8 (z : Int) : (puts z 8).length = 8 := puts_length z 8
  obtain ⟨a, b, c, d⟩ := su
  obtain ⟨h1, h2, h3, h4⟩ := h
  unfold part8 sumO
  refine ⟨?_, ?_, ?_, ?_⟩
  · rw [show ((puts a 8 ++ puts b 8 ++ puts c 8 ++ puts d 8).drop (0 * 8)).take 8 = puts a 8 by
      rw [Nat.zero_mul, List.drop_zero, List.append_assoc, List.append_assoc, List.take_left' (l8 a)]]
    exact one a h1
  · rw [show ((puts a 8 ++ puts b 8 ++ puts c 8 ++ puts d 8).drop (1 * 8)).take 8 = puts b 8 by
      rw [List.append_assoc, List.append_assoc, List.drop_left' (by rw [l8 a]), List.take_left' (l8 b)]]
    exact one b h2
  · rw [show ((puts a 8 ++ puts b 8 ++ puts c 8 ++ puts d 8).drop (2 * 8)).take 8 = puts c 8 by
      rw [List.append_assoc (puts a 8 ++ puts b 8), List.drop_left' (by rw [List.length_append, l8 a, l8 b]), List.take_left' (l8 c)]]
    exact one c h3
  · rw [show ((puts a 8 ++ puts b 8 ++ puts c 8 ++ puts d 8).drop (3 * 8)).take 8 = puts d 8 by
      rw [List.drop_left' (by rw [List.length_append, List.length_append, l8 a, l8 b, l8 c]), List.take_of_length_le (by rw [l8 d]; exact Nat.le_refl _)]]
    exact one d h4
theorem sumOf_sumO (su : Su) (h : su.wf) : sumOf (sumO su) = su ∧ sumE (sumO su) = 0 := by
  obtain ⟨h1, h2, h3, h4⟩ := part8_sumO su h
  have hl := sumO_length su
  unfold sumOf sumE
  rw [if_pos hl, h1, h2, h3, h4, if_neg (by omega), if_neg (by omega)]
  exact ⟨rfl, rfl⟩
theorem read_back (r : Rec) (h : recE r = 0) (hs : (sumR r).wf) (ho : r.on = r.own.length) : readA r.kind (recTexts r) = r.bare ∧ readB r.kind (recTexts r) = true := by
  obtain ⟨hk, hm⟩ := rec_ok h
  obtain ⟨kind, name, frm, guid, oA, on, oc, own, index, count, data, s0, s1, s2, s3⟩ := r
  dsimp only at hk ho
  unfold mayB at hm
  dsimp only at hm
  by_cases k1 : kind = 1
  · subst k1
    rw [if_pos rfl] at hm
    simp only [Bool.and_eq_true, decide_eq_true_eq, beq_iff_eq, sumZ] at hm
    obtain ⟨⟨⟨⟨⟨⟨⟨⟨⟨a1, a2⟩, a3⟩, a4⟩, a5⟩, a6⟩, rfl⟩, rfl⟩, a9⟩, ⟨⟨rfl, rfl⟩, rfl⟩, rfl⟩ := hm
    obtain rfl := empty_toList a9
    have e : recTexts ⟨1, name, frm, guid, oA, on, oc, own, 0, 0, ⟨#[]⟩, 0, 0, 0, 0⟩ = name :: num8 frm :: num8 guid :: ptext own := by simp [recTexts]
    rw [e]
    show readA 1 _ = _ ∧ readB 1 _ = true
    unfold readA readB
    rw [if_pos rfl, if_pos rfl, stT_cons]
    dsimp only
    rw [stN_cons frm (by omega)]
    dsimp only
    rw [stN_cons guid (by omega)]
    dsimp only
    rw [pairs_ptext]
    exact ⟨rfl, rfl⟩
  rw [if_neg k1] at hm
  by_cases k2 : kind = 2
  · subst k2
    rw [if_pos rfl] at hm
    simp only [Bool.and_eq_true, decide_eq_true_eq, beq_iff_eq, sumZ] at hm
    obtain ⟨⟨⟨⟨⟨⟨⟨⟨a1, a2⟩, a3⟩, a4⟩, rfl⟩, rfl⟩, rfl⟩, ⟨⟨rfl, rfl⟩, rfl⟩, rfl⟩, rfl⟩ := hm
    obtain rfl := empty_toList a4
    obtain rfl : own = [] := List.eq_nil_of_length_eq_zero ho.symm
    have e : recTexts ⟨2, ⟨#[]⟩, 0, 0, oA, 0, oc, [], index, 0, data, 0, 0, 0, 0⟩ = [num8 index, data] := by simp [recTexts]
    rw [e]
    show readA 2 _ = _ ∧ readB 2 _ = true
    unfold readA readB
    rw [if_neg (by decide), if_pos rfl, if_neg (by decide), if_pos rfl, stN_cons index (by omega)]
    exact ⟨rfl, rfl⟩
  rw [if_neg k2] at hm
  by_cases k3 : kind = 3
  · subst k3
    rw [if_pos rfl] at hm
    simp only [Bool.and_eq_true, decide_eq_true_eq, beq_iff_eq, sumZ] at hm
    obtain ⟨⟨⟨⟨⟨⟨⟨⟨⟨a1, a2⟩, a3⟩, a4⟩, a5⟩, rfl⟩, rfl⟩, a6⟩, ⟨⟨rfl, rfl⟩, rfl⟩, rfl⟩, rfl⟩ := hm
    obtain rfl := empty_toList a5
    obtain rfl := empty_toList a6
    obtain rfl : own = [] := List.eq_nil_of_length_eq_zero ho.symm
    have e : recTexts ⟨3, ⟨#[]⟩, 0, 0, oA, 0, oc, [], index, count, ⟨#[]⟩, 0, 0, 0, 0⟩ = [num8 index, num8 count] := by simp [recTexts]
    rw [e]
    show readA 3 _ = _ ∧ readB 3 _ = true
    unfold readA readB
    rw [if_neg (by decide), if_neg (by decide), if_pos rfl, if_neg (by decide), if_neg (by decide), if_pos rfl, stN_cons index (by omega)]
    dsimp only
    rw [stN_cons count (by omega)]
    exact ⟨rfl, rfl⟩
  rw [if_neg k3] at hm
  obtain rfl : kind = 4 := by omega
  simp only [Bool.and_eq_true, decide_eq_true_eq, beq_iff_eq] at hm
  obtain ⟨⟨⟨⟨⟨⟨a1, rfl⟩, rfl⟩, rfl⟩, rfl⟩, a2⟩, rfl⟩ := hm
  obtain rfl := empty_toList a1
  obtain rfl := empty_toList a2
  obtain rfl : own = [] := List.eq_nil_of_length_eq_zero ho.symm
  have e : recTexts ⟨4, ⟨#[]⟩, 0, 0, oA, 0, oc, [], 0, 0, ⟨#[]⟩, s0, s1, s2, s3⟩ = [⟨(sumO ⟨s0, s1, s2, s3⟩).toArray⟩] := by simp [recTexts, sumR]
  rw [e]
  obtain ⟨q1, q2⟩ := sumOf_sumO ⟨s0, s1, s2, s3⟩ hs
  show readA 4 _ = _ ∧ readB 4 _ = true
  unfold readA readB
  rw [if_neg (by decide), if_neg (by decide), if_neg (by decide), if_neg (by decide), if_neg (by decide), if_neg (by decide), stT_cons]
  dsimp only
  rw [q1, q2]
  exact ⟨rfl, rfl⟩
theorem ps_parts (k : UInt8) (t rest : List UInt8) (ht : t.length < 65536) :
    psN ([k] ++ puts t.length 2 ++ t ++ rest) = t.length ∧ psT ([k] ++ puts t.length 2 ++ t ++ rest) = t ∧ ¬ ([k] ++ puts t.length 2 ++ t ++ rest).length < 3 + t.length := by
  have h2 : (puts (t.length : Int) 2).length = 2 := puts_length _ _
  have e : [k] ++ puts t.length 2 ++ t ++ rest = k :: (puts t.length 2 ++ (t ++ rest)) := by simp
  have hN : psN ([k] ++ puts t.length 2 ++ t ++ rest) = t.length := by
    rw [e, psN, List.drop_succ_cons, List.drop_zero, List.take_left' h2]
    exact val_puts_small _ _ (by omega)
  refine ⟨hN, ?_, ?_⟩
  · rw [psT, hN, e, show (3 : Nat) = 2 + 1 from rfl, List.drop_succ_cons, List.drop_left' h2, List.take_left' rfl]
  · simp only [List.length_append, List.length_cons, List.length_nil, h2]
    omega
theorem recE_bare (r : Rec) (h : recE r = 0) (ho : r.on = r.own.length) : recE r.bare = 0 := by
  refine (recE_of (y := r) rfl ho ?_).symm.trans h
  by_cases k1 : r.kind = 1
  · exact .inl k1
  · right
    obtain ⟨hk, hm⟩ := rec_ok h
    have : r.on = 0 := by
      unfold mayB at hm
      rw [if_neg k1] at hm
      split at hm
      · simp only [Bool.and_eq_true, decide_eq_true_eq] at hm; exact hm.2
      · split at hm
        · simp only [Bool.and_eq_true, decide_eq_true_eq] at hm; exact hm.2
        · simp only [Bool.and_eq_true, decide_eq_true_eq] at hm; exact hm.2
    exact List.eq_nil_of_length_eq_zero (show r.own.length = 0 by omega)
theorem ps_back (r : Rec) (rest : List UInt8) (h : recE r = 0) (hs : (sumR r).wf) (ho : r.on = r.own.length) : psE (encB r ++ rest) = 0 ∧ psM (encB r ++ rest) = (encB r).length ∧ psA (encB r ++ rest) = r.bare := by
  have hk := kind_bd r h
  have hf := texts_fit r h
  have hl := encB_len r
  have hB : encB r = [UInt8.ofNat r.kind.toNat] ++ puts (wB (recTexts r)).length 2 ++ wB (recTexts r) := by rw [encB, if_pos h]
  have ht : (wB (recTexts r)).length < 65536 := by rw [hB, List.length_append] at hl; omega
  have hlen : (encB r).length = 3 + (wB (recTexts r)).length := by rw [hB]; simp [puts_length]; omega
  obtain ⟨p1, p2, p3⟩ := ps_parts (UInt8.ofNat r.kind.toNat) (wB (recTexts r)) rest ht
  rw [← hB] at p1 p2 p3
  obtain ⟨r1, r2⟩ := read_back r h hs ho
  have hd : rd (psT (encB r ++ rest)) = (0, recTexts r) := by
    rw [p2]
    have := rdw_flat (recTexts r) hf []
    simpa using this
  have hkb := kind_byte r.kind hk
  have hE : psE (encB r ++ rest) = 0 := by
    have e : encB r ++ rest = UInt8.ofNat r.kind.toNat :: (puts (wB (recTexts r)).length 2 ++ (wB (recTexts r) ++ rest)) := by rw [hB]; simp
    have e2 : psE (encB r ++ rest) = if (UInt8.ofNat r.kind.toNat).toNat < 1 ∨ 4 < (UInt8.ofNat r.kind.toNat).toNat then 23 else if (encB r ++ rest).length < 3 then 8 else if (encB r ++ rest).length < 3 + psN (encB r ++ rest) then 8
        else if (rd (psT (encB r ++ rest))).1 ≠ 0 ∨ readB (UInt8.ofNat r.kind.toNat).toNat (rd (psT (encB r ++ rest))).2 = false then 33 else if recE (readA (UInt8.ofNat r.kind.toNat).toNat (rd (psT (encB r ++ rest))).2) ≠ 0 then 9 else 0 := by
      rw [e]; rfl
    rw [e2, if_neg (by omega), if_neg (by omega), p1, if_neg p3, hd, hkb, if_neg (by rw [r2]; simp), r1, if_neg (by rw [recE_bare r h ho]; simp)]
  refine ⟨hE, ?_, ?_⟩
  · rw [psM, if_pos hE, p1, hlen]
  · rw [psA, if_pos hE, hd]
    have hh : (encB r ++ rest).headD 0 = UInt8.ofNat r.kind.toNat := by rw [hB]; rfl
    rw [hh, hkb]
    exact r1
end Go.Proofs.YtmecjjmlccdppaaGreatDoor
