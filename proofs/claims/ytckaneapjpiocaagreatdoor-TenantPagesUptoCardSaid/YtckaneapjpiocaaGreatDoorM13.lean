/- The texts Tpl, Hpk, Wri, Rl in one file. -/
import Derived.Test.YtckaneapjpiocaaGreatDoorM12
import Derived.Test.YtckaneapjpiocaaGreatDoorM6
import Derived.Test.YtckaneapjpiocaaGreatDoorM3
import Derived.Test.YtckaneapjpiocaaGreatDoorM5
/- A tenant as objects: the plain law of its texts, octets and pages. -/
namespace Go.Proofs.YtckaneapjpiocaaGreatDoor
open Go.RowKit Go.Maps Go.Sort Go.Shelf
set_option linter.unusedVariables false
set_option linter.unusedSimpArgs false

def blkO (xs : List Blk) : List UInt8 := xs.flatMap fun x => puts x.index 2 ++ x.data.data.toList
def strO (l : List UInt8) : ByteArray := ⟨l.toArray⟩
theorem strO_size (l : List UInt8) : (strO l).size = l.length := List.size_toArray
def ownT (l : List Prp) : List ByteArray := num8 (l.length : Int) :: ptext l
def graT (x : Gra) : List ByteArray := [x.user, x.path, num8 x.perms]
def linT (x : Lin) : List ByteArray := [x.user, num8 x.kind, x.path, num8 x.err]
def headT (t : Tnt) : List ByteArray := num8 t.quota :: num8 t.next :: num8 (t.grants.xs.length : Int) :: (t.grants.xs.flatMap graT ++ (num8 (t.log.xs.length : Int) :: t.log.xs.flatMap linT))
def snaT (x : Sna) : List ByteArray := x.name :: num8 x.guid :: (ownT x.own.xs ++ (num8 (x.tags.xs.length : Int) :: (x.tags.xs ++ [strO (blkO x.body.xs)])))
def dstT (x : Dst) : List ByteArray := x.origin :: (ownT x.own.xs ++ (strO (blkO x.body.xs) :: num8 (x.snaps.xs.length : Int) :: x.snaps.xs.flatMap snaT))
def stgT (x : Stg) : List ByteArray := [strO (encB x.beg), strO (blkO x.body), num8 x.pos, num8 x.next, strO (sumO x.su), num8 (if x.done = true then 1 else 0)]
def keyO (l : List ByteArray) : ByteArray := ⟨(Go.Lib.join (l.map (·.data.toList)) [47]).toArray⟩
def kT : ByteArray := ⟨#[116]⟩
def kS : ByteArray := ⟨#[115]⟩
def kG : ByteArray := ⟨#[103]⟩
/-- a tenant's objects: keys and texts -/
def objT (t : Tnt) : List (ByteArray × List ByteArray) :=
  (keyO [kT, t.name], headT t) :: (t.sets.xs.map (fun s => (keyO [kS, t.name, s.path], dstT s)) ++ t.stages.xs.map (fun s => (keyO [kG, t.name, s.into], stgT s)))
/-- what texts take -/
def tln (l : List ByteArray) : Nat := (l.map fun s => 3 + s.size).sum
theorem tln_nil : tln [] = 0 := rfl
theorem tln_cons (s : ByteArray) (l : List ByteArray) : tln (s :: l) = 3 + s.size + tln l := by simp [tln]
theorem tln_app (l m : List ByteArray) : tln (l ++ m) = tln l + tln m := by simp [tln]
theorem tln_flat {α : Type} (f : α → List ByteArray) (l : List α) (m : Nat) (h : ∀ x ∈ l, tln (f x) ≤ m) : tln (l.flatMap f) ≤ l.length * m := by
  induction l with
  | nil => simp [tln]
  | cons x l ih =>
    rw [List.flatMap_cons, tln_app, List.length_cons, Nat.add_mul]
    have h1 := h x (by simp)
    have h2 := ih fun y hy => h y (by simp [hy])
    omega
theorem tln_flat2 {α : Type} (f : α → List ByteArray) (g : α → Nat) (l : List α) (h : ∀ x ∈ l, tln (f x) ≤ g x) : tln (l.flatMap f) ≤ (l.map g).sum := by
  induction l with
  | nil => simp [tln]
  | cons x l ih =>
    rw [List.flatMap_cons, tln_app, List.map_cons, List.sum_cons]
    have h1 := h x (by simp)
    have h2 := ih fun y hy => h y (by simp [hy])
    omega
theorem flat_tln (l : List ByteArray) : (flat l).length = 2 + tln l := by
  unfold flat
  rw [List.length_append, puts_length]
  congr 1
  induction l with
  | nil => rfl
  | cons s l ih =>
    rw [List.flatMap_cons, List.length_append, ih, tln_cons]
    congr 1
    show (puts s.size 3 ++ s.data.toList).length = _
    rw [List.length_append, puts_length]
    congr 1
/-- how many texts -/
theorem len_flat {α : Type} (f : α → List ByteArray) (l : List α) (m : Nat) (h : ∀ x ∈ l, (f x).length ≤ m) : (l.flatMap f).length ≤ l.length * m := by
  induction l with
  | nil => simp
  | cons x l ih =>
    rw [List.flatMap_cons, List.length_append, List.length_cons, Nat.add_mul]
    have h1 := h x (by simp)
    have h2 := ih fun y hy => h y (by simp [hy])
    omega
theorem num8_sz (z : Int) : (num8 z).size = 8 := num8_size z
theorem name_size {s : ByteArray} (h : nameB s = true) : s.size ≤ 16 := by
  simp only [nameB, Bool.and_eq_true, decide_eq_true_eq] at h
  exact h.1.2
theorem parts_size (s : List UInt8) : ∀ cur, ((partsGo cur s).map List.length).sum + (partsGo cur s).length = cur.length + s.length + 1 := by
  induction s with
  | nil => intro cur; simp [partsGo]
  | cons b s ih =>
    intro cur
    rw [partsGo]
    by_cases h : b = 47
    · rw [if_pos h, List.map_cons, List.sum_cons, List.length_cons]
      have := ih []
      simp only [List.length_nil, List.length_cons] at *
      omega
    · rw [if_neg h]
      have := ih (cur ++ [b])
      simp only [List.length_append, List.length_cons, List.length_nil] at *
      omega
theorem sum_le_mul (l : List Nat) (m : Nat) (h : ∀ x ∈ l, x ≤ m) : l.sum ≤ l.length * m := by
  induction l with
  | nil => simp
  | cons x l ih =>
    rw [List.sum_cons, List.length_cons, Nat.add_mul]
    have h1 := h x (by simp)
    have h2 := ih fun y hy => h y (by simp [hy])
    omega
theorem path_size {s : ByteArray} (h : pathB s = true) : s.size ≤ 67 := by
  simp only [pathB, Bool.or_eq_true, Bool.and_eq_true, decide_eq_true_eq, List.all_eq_true] at h
  rcases h with h | ⟨h1, h2⟩
  · omega
  · have h3 := parts_size s.data.toList []
    have h4 := sum_le_mul ((parts s.data.toList).map List.length) 16 fun x hx => by
      obtain ⟨p, hp, rfl⟩ := List.mem_map.1 hx
      have := name_size (h2 p hp)
      have h5 : (⟨p.toArray⟩ : ByteArray).size = p.length := List.size_toArray
      omega
    rw [List.length_map] at h4
    have h6 : s.data.toList.length = s.size := Array.length_toList
    simp only [List.length_nil] at h3
    have h7 : parts s.data.toList = partsGo [] s.data.toList := rfl
    rw [h7] at h1 h4
    have h8 : (partsGo [] s.data.toList).length * 16 ≤ 64 := by omega
    have h9 : (partsGo [] s.data.toList).length ≥ 1 := by
      rw [partsGo_len]; omega
    omega
/-- a content that may be -/
theorem bk_small (xs : List Blk) (h : bkE xs = 0) : xs.length ≤ 1024 ∧ ∀ x ∈ xs, x.data.size = 16 := by
  have hb : bkUpto xs xs.length = false := by
    rw [bkE] at h
    cases hq : bkUpto xs xs.length with
    | false => rfl
    | true => rw [hq] at h; cases h
  have hk : ∀ k, k < xs.length → bkBad xs k = false := fun k hk => by
    cases hq : bkBad xs k with
    | false => rfl
    | true => rw [bkUpto_at xs k _ hk hq] at hb; cases hb
  have hone : ∀ k (h : k < xs.length), 0 ≤ xs[k].index ∧ xs[k].index < 1024 ∧ xs[k].data.size = 16 := fun k h => by
    have := hk k h
    rw [bkBad_at xs k h, Bool.or_eq_false_iff] at this
    have := this.1
    simp only [badOne, Bool.or_eq_false_iff, decide_eq_false_iff_not, Decidable.not_not] at this
    omega
  have hr : ∀ k (h : k < xs.length), (k : Int) ≤ xs[k].index := by
    intro k
    induction k with
    | zero => intro h; exact (hone 0 h).1
    | succ k ih =>
      intro h
      have h1 := ih (by omega)
      have h2 := hk (k + 1) h
      rw [bkBad_at xs (k + 1) h, Bool.or_eq_false_iff] at h2
      have h3 := h2.2
      have e : k + 1 - 1 = k := by omega
      rw [e, ixAt_at xs k (by omega)] at h3
      simp only [Bool.and_eq_false_iff, decide_eq_false_iff_not] at h3
      omega
  constructor
  · by_cases h0 : xs.length = 0
    · omega
    · have h1 := hr (xs.length - 1) (by omega)
      have h2 := (hone (xs.length - 1) (by omega)).2.1
      omega
  · intro x hx
    obtain ⟨k, hk, rfl⟩ := List.getElem_of_mem hx
    exact (hone k hk).2.2
theorem blkO_len (xs : List Blk) (h : ∀ x ∈ xs, x.data.size = 16) : (blkO xs).length = xs.length * 18 := by
  induction xs with
  | nil => rfl
  | cons x xs ih =>
    have h1 := ih fun y hy => h y (by simp [hy])
    have h2 := h x (by simp)
    have h3 : x.data.data.toList.length = x.data.size := Array.length_toList
    rw [blkO] at h1 ⊢
    rw [List.flatMap_cons, List.length_append, h1, List.length_append, puts_length, List.length_cons]
    omega
theorem own_small (l : List Prp) (h : prE l = 0) : (ownT l).length ≤ 17 ∧ tln (ownT l) ≤ 443 ∧ ∀ s ∈ ownT l, s.size ≤ 32 := by
  obtain ⟨h1, h2⟩ := pr_small l h
  refine ⟨?_, ?_, ?_⟩
  · rw [ownT, List.length_cons, ptext_length]; omega
  · rw [ownT, tln_cons, num8_sz, ptext]
    have := tln_flat (fun x : Prp => [x.name, x.value]) l 54 fun x hx => by
      have := h2 x hx
      rw [tln_cons, tln_cons, tln_nil]; omega
    omega
  · intro s hs
    rw [ownT, List.mem_cons] at hs
    rcases hs with rfl | hs
    · rw [num8_sz]; omega
    · obtain ⟨x, hx, hs⟩ := List.mem_flatMap.1 hs
      have := h2 x hx
      simp only [List.mem_cons, List.not_mem_nil, or_false] at hs
      rcases hs with rfl | rfl <;> omega
theorem unl_name {l : List ByteArray} (h : unlB l = true) : ∀ s ∈ l, nameB s = true := by
  intro s hs
  obtain ⟨k, hk, rfl⟩ := List.getElem_of_mem hs
  rw [unlB, List.all_eq_true] at h
  have := h k (List.mem_range.2 hk)
  simp only [Bool.and_eq_true] at this
  have h1 := this.1
  simpa [List.getD, List.getElem?_eq_getElem hk] using h1
theorem sna_small (x : Sna) (h : snB x = true) (hn : nameB x.name = true) : (snaT x).length ≤ 25 ∧ tln (snaT x) ≤ 563 + 18 * x.body.xs.length ∧ ∀ s ∈ snaT x, s.size ≤ 18432 := by
  simp only [snB, tagB, Bool.and_eq_true, decide_eq_true_eq, List.all_eq_true] at h
  obtain ⟨_, h1, h2, h3, h4, _⟩ := h
  obtain ⟨b1, b2⟩ := bk_small _ h1
  have b3 := blkO_len _ b2
  obtain ⟨o1, o2, o3⟩ := own_small _ h2
  have hn := name_size hn
  have ht : tln x.tags.xs ≤ 76 := by
    have := sum_le_mul (x.tags.xs.map fun s => 3 + s.size) 19 fun y hy => by
      obtain ⟨s, hs, rfl⟩ := List.mem_map.1 hy
      have := name_size (h4 s hs)
      omega
    rw [List.length_map] at this
    rw [tln]; omega
  refine ⟨?_, ?_, ?_⟩
  · simp only [snaT, List.length_cons, List.length_append, List.length_nil]; omega
  · simp only [snaT, tln_cons, tln_app, tln_nil, num8_sz, strO_size]; omega
  · intro s hs
    simp only [snaT, List.mem_cons, List.mem_append, List.not_mem_nil, or_false] at hs
    rcases hs with rfl | rfl | hs | rfl | hs | rfl
    · omega
    · rw [num8_sz]; omega
    · have := o3 s hs; omega
    · rw [num8_sz]; omega
    · have := name_size (h4 s hs); omega
    · rw [strO_size]; omega
theorem origin_size (sets : List Dst) (x : Dst) (h : orB sets x = true) : x.origin.size ≤ 84 := by
  simp only [orB, splB, Bool.or_eq_true, Bool.and_eq_true, decide_eq_true_eq] at h
  rcases h with h | h
  · omega
  · have h1 := path_size h.1.2.1
    have h2 := name_size h.1.2.2
    rw [splP, ByteArray.size_extract] at h1
    rw [splN, ByteArray.size_extract] at h2
    omega
theorem sns_small (l : List Sna) (h : snsB l = true) : l.length ≤ 16 ∧ ∀ x ∈ l, (snaT x).length ≤ 25 ∧ tln (snaT x) ≤ 563 + 18 * x.body.xs.length ∧ ∀ s ∈ snaT x, s.size ≤ 18432 := by
  simp only [snsB, Bool.and_eq_true, decide_eq_true_eq, List.all_eq_true] at h
  refine ⟨h.1, fun x hx => sna_small x (h.2.1 x hx) (unl_name h.2.2.2 _ (List.mem_map.2 ⟨x, hx, rfl⟩))⟩
def chS (x : Dst) : Nat := 1 + x.body.xs.length + (x.snaps.xs.map fun y : Sna => 1 + y.body.xs.length).sum
def chG (x : Stg) : Nat := 1 + x.body.length
/-- what a tenant is charged for -/
def chT (t : Tnt) : Nat := (t.sets.xs.map chS).sum + (t.stages.xs.map chG).sum
theorem sum_lin (l : List Sna) : (l.map fun y : Sna => 563 + 18 * y.body.xs.length).sum ≤ 563 * (l.map fun y : Sna => 1 + y.body.xs.length).sum := by
  induction l with
  | nil => simp
  | cons x l ih => simp only [List.map_cons, List.sum_cons]; omega
theorem dst_small (sets : List Dst) (x : Dst) (h : seB sets x = true) : (dstT x).length ≤ 420 ∧ tln (dstT x) ≤ 563 * chS x ∧ (∀ s ∈ dstT x, s.size ≤ 18432) ∧ x.path.size ≤ 67 := by
  simp only [seB, Bool.and_eq_true, decide_eq_true_eq] at h
  obtain ⟨hp, _, ho, hb, hs, hr⟩ := h
  obtain ⟨b1, b2⟩ := bk_small _ hb
  have b3 := blkO_len _ b2
  obtain ⟨o1, o2, o3⟩ := own_small _ ho
  have hr := origin_size sets x hr
  obtain ⟨s1, s2⟩ := sns_small _ hs
  have s3 := len_flat snaT x.snaps.xs 25 fun y hy => (s2 y hy).1
  have s4 := tln_flat2 snaT (fun y => 563 + 18 * y.body.xs.length) x.snaps.xs fun y hy => (s2 y hy).2.1
  have s5 := sum_lin x.snaps.xs
  refine ⟨?_, ?_, ?_, path_size hp⟩
  · simp only [dstT, List.length_cons, List.length_append]; omega
  · simp only [dstT, tln_cons, tln_app, num8_sz, strO_size, chS]; omega
  · intro s hs
    simp only [dstT, List.mem_cons, List.mem_append, List.mem_flatMap] at hs
    rcases hs with rfl | hs | rfl | rfl | ⟨y, hy, hs⟩
    · omega
    · have := o3 s hs; omega
    · rw [strO_size]; omega
    · rw [num8_sz]; omega
    · exact (s2 y hy).2.2 s hs
theorem tln_wB (l : List ByteArray) : (wB l).length ≤ 2 + tln l := by
  rw [wB]
  split
  · rw [flat_tln]; exact Nat.le_refl _
  · simp
theorem enc_small (x : Rec) (hk : x.kind = 1) (h : recE x = 0) : (encB x).length ≤ 478 := by
  rw [encB, if_pos h]
  have h1 := tln_wB (recTexts x)
  have hm : mayB x = true := by
    unfold recE at h
    rw [if_neg (by omega)] at h
    cases hq : mayB x with
    | true => rfl
    | false => rw [hq] at h; cases h
  have h2 : tln (recTexts x) ≤ 473 := by
    have h3 : nameB x.name = true ∧ prE x.own = 0 := by
      rw [mayB] at hm
      simp [hk, and_assoc] at hm
      exact ⟨hm.1, hm.2.2.2.2.2.1⟩
    have h4 := name_size h3.1
    obtain ⟨h5, h6⟩ := pr_small _ h3.2
    rw [recTexts, if_pos hk, tln_app, tln_cons, tln_cons, tln_cons, tln_nil, num8_sz, num8_sz, ptext]
    have := tln_flat (fun x : Prp => [x.name, x.value]) x.own 54 fun y hy => by
      have := h6 y hy
      rw [tln_cons, tln_cons, tln_nil]; omega
    omega
  simp only [List.length_append, List.length_cons, List.length_nil, puts_length]
  omega
theorem stg_small (x : Stg) (h : stB x = true) : (stgT x).length ≤ 6 ∧ tln (stgT x) ≤ 563 * chG x ∧ (∀ s ∈ stgT x, s.size ≤ 18432) ∧ x.into.size ≤ 67 := by
  simp only [stB, Bool.and_eq_true, decide_eq_true_eq, beq_iff_eq] at h
  obtain ⟨_, hp, hk, hr, hb, _⟩ := h
  obtain ⟨b1, b2⟩ := bk_small _ hb
  have b3 := blkO_len _ b2
  have e1 := enc_small _ hk hr
  have s1 := sumO_length x.su
  refine ⟨by simp [stgT], ?_, ?_, path_size hp⟩
  · simp only [stgT, tln_cons, tln_nil, num8_sz, strO_size, chG]; omega
  · intro s hs
    simp only [stgT, List.mem_cons, List.not_mem_nil, or_false] at hs
    rcases hs with rfl | rfl | rfl | rfl | rfl | rfl <;> simp only [num8_sz, strO_size] <;> omega
theorem head_small (t : Tnt) (hg : grB t.grants.xs = true) (hl : t.log.xs.length ≤ 16) (hl2 : t.log.xs.all liB = true) : (headT t).length ≤ 116 ∧ tln (headT t) ≤ 3420 ∧ ∀ s ∈ headT t, s.size ≤ 18432 := by
  simp only [grB, Bool.and_eq_true, decide_eq_true_eq, List.all_eq_true] at hg
  obtain ⟨g1, g2, _⟩ := hg
  have g3 : ∀ x ∈ t.grants.xs, x.user.size ≤ 16 ∧ x.path.size ≤ 67 := fun x hx => by
    have := g2 x hx
    simp only [grB1, Bool.and_eq_true] at this
    exact ⟨name_size this.1, path_size this.2.1⟩
  have l3 : ∀ x ∈ t.log.xs, x.user.size ≤ 16 ∧ x.path.size ≤ 67 := fun x hx => by
    have := List.all_eq_true.1 hl2 x hx
    simp only [liB, Bool.and_eq_true, Bool.or_eq_true, decide_eq_true_eq] at this
    refine ⟨?_, path_size this.2.1⟩
    rcases this.1 with h | h
    · omega
    · exact name_size h
  have g4 := tln_flat graT t.grants.xs 100 fun x hx => by
    have := g3 x hx
    simp only [graT, tln_cons, tln_nil, num8_sz]; omega
  have l4 := tln_flat linT t.log.xs 111 fun x hx => by
    have := l3 x hx
    simp only [linT, tln_cons, tln_nil, num8_sz]; omega
  have g5 := len_flat graT t.grants.xs 3 fun x hx => by simp [graT]
  have l5 := len_flat linT t.log.xs 4 fun x hx => by simp [linT]
  refine ⟨?_, ?_, ?_⟩
  · simp only [headT, List.length_cons, List.length_append]; omega
  · simp only [headT, tln_cons, tln_app, num8_sz]; omega
  · intro s hs
    simp only [headT, List.mem_cons, List.mem_append, List.mem_flatMap] at hs
    rcases hs with rfl | rfl | rfl | ⟨x, hx, hs⟩ | rfl | ⟨x, hx, hs⟩
    · rw [num8_sz]; omega
    · rw [num8_sz]; omega
    · rw [num8_sz]; omega
    · have := g3 x hx
      simp only [graT, List.mem_cons, List.not_mem_nil, or_false] at hs
      rcases hs with rfl | rfl | rfl <;> (try rw [num8_sz]) <;> omega
    · rw [num8_sz]; omega
    · have := l3 x hx
      simp only [linT, List.mem_cons, List.not_mem_nil, or_false] at hs
      rcases hs with rfl | rfl | rfl | rfl <;> (try rw [num8_sz]) <;> omega
theorem wE_small {l : List ByteArray} (h1 : l.length ≤ 1024) (h2 : ∀ s ∈ l, s.size ≤ 18432) : wE l = 0 := by
  rw [wE, if_neg (by omega), if_neg]
  intro hq
  obtain ⟨s, hs, hl⟩ := List.any_eq_true.1 hq
  have := h2 s hs
  simp only [longB, decide_eq_true_eq] at hl
  omega
theorem join_len (l : List (List UInt8)) : (Go.Lib.join l [47]).length ≤ (l.map fun x => x.length + 1).sum := by
  induction l with
  | nil => simp [Go.Lib.join]
  | cons a l ih =>
    cases l with
    | nil => simp [Go.Lib.join]
    | cons b l =>
      have e : Go.Lib.join (a :: b :: l) [47] = a ++ ([47] ++ Go.Lib.join (b :: l) [47]) := by
        simp [Go.Lib.join, List.intercalate, List.intersperse]
      rw [e, List.map_cons, List.sum_cons, List.length_append, List.length_append]
      simp only [List.length_cons, List.length_nil] at ih ⊢
      omega
theorem key_size (l : List ByteArray) : (keyO l).size ≤ (l.map fun x => x.size + 1).sum := by
  have h := join_len (l.map (·.data.toList))
  have e : (keyO l).size = (Go.Lib.join (l.map (·.data.toList)) [47]).length := List.size_toArray
  rw [e]
  rw [List.map_map] at h
  exact h
/-- the index's texts of objects that are placed -/
def ixT (l : List (ByteArray × Nat)) : List ByteArray := l.flatMap fun x => [x.1, num8 (x.2 : Int), strO (numsO (List.replicate (cntP x.2) 0))]
/-- how many pages objects need: keys, and how many octets -/
def needO (l : List (ByteArray × Nat)) : Nat := if l.isEmpty = true then 0 else (l.map fun x => cntP x.2).sum + cntP (wB (ixT l)).length
theorem ixT_tln (l : List (ByteArray × Nat)) : tln (ixT l) = (l.map fun x => 17 + x.1.size + 8 * cntP x.2).sum := by
  induction l with
  | nil => rfl
  | cons x l ih =>
    rw [ixT, List.flatMap_cons, tln_app, ← ixT, ih, List.map_cons, List.sum_cons]
    simp only [tln_cons, tln_nil, num8_sz, strO_size, numsO_len, List.length_replicate]
    omega
def dat (x : ByteArray × List ByteArray) : ByteArray × Nat := (x.1, (wB x.2).length)
theorem cost_sum {α : Type} (f : α → ByteArray × Nat) (g : α → Nat) (l : List α) (h : ∀ x ∈ l, 60 * cntP (f x).2 + 17 + (f x).1.size ≤ 1248 * g x) :
    60 * ((l.map f).map fun x => cntP x.2).sum + ((l.map f).map fun x => 17 + x.1.size + 8 * cntP x.2).sum ≤ 1248 * (l.map g).sum + 8 * ((l.map f).map fun x => cntP x.2).sum := by
  induction l with
  | nil => simp
  | cons x l ih =>
    have h1 := h x (by simp)
    have h2 := ih fun y hy => h y (by simp [hy])
    simp only [List.map_cons, List.sum_cons]
    omega
theorem need_le (t : Tnt) (h : tenB t = true) : needO ((objT t).map dat) ≤ 160 + 24 * chT t := by
  simp only [tenB, Bool.and_eq_true, decide_eq_true_eq] at h
  obtain ⟨hn, _, _, hs, hg, hst, hl, hl2⟩ := h
  have hn := name_size hn
  obtain ⟨h1, h2, _⟩ := head_small t hg hl hl2
  simp only [setsB, Bool.and_eq_true, List.all_eq_true] at hs
  simp only [stsB, Bool.and_eq_true, List.all_eq_true] at hst
  have k1 : kT.size = 1 := rfl
  have k2 : kS.size = 1 := rfl
  have k3 : kG.size = 1 := rfl
  have c1 := cost_sum (fun s : Dst => dat (keyO [kS, t.name, s.path], dstT s)) chS t.sets.xs fun x hx => by
    obtain ⟨_, d1, _, d2⟩ := dst_small _ x (hs.2.2.1 x hx)
    have d3 := tln_wB (dstT x)
    have d4 := key_size [kS, t.name, x.path]
    simp only [List.map_cons, List.map_nil, List.sum_cons, List.sum_nil] at d4
    have d5 : 1 ≤ chS x := by rw [chS]; omega
    show 60 * ((((wB (dstT x)).length + 51) / 52)) + 17 + (keyO [kS, t.name, x.path]).size ≤ 1248 * chS x
    omega
  have c2 := cost_sum (fun s : Stg => dat (keyO [kG, t.name, s.into], stgT s)) chG t.stages.xs fun x hx => by
    obtain ⟨_, d1, _, d2⟩ := stg_small x (hst.2.1 x hx)
    have d3 := tln_wB (stgT x)
    have d4 := key_size [kG, t.name, x.into]
    simp only [List.map_cons, List.map_nil, List.sum_cons, List.sum_nil] at d4
    have d5 : 1 ≤ chG x := by rw [chG]; omega
    show 60 * ((((wB (stgT x)).length + 51) / 52)) + 17 + (keyO [kG, t.name, x.into]).size ≤ 1248 * chG x
    omega
  have e1 : (objT t).map dat = dat (keyO [kT, t.name], headT t) :: (t.sets.xs.map (fun s : Dst => dat (keyO [kS, t.name, s.path], dstT s)) ++ t.stages.xs.map (fun s : Stg => dat (keyO [kG, t.name, s.into], stgT s))) := by
    simp only [objT, List.map_cons, List.map_append, List.map_map]; rfl
  have e2 := tln_wB (ixT ((objT t).map dat))
  rw [ixT_tln] at e2
  have e3 := key_size [kT, t.name]
  simp only [List.map_cons, List.map_nil, List.sum_cons, List.sum_nil] at e3
  have e4 := tln_wB (headT t)
  rw [needO]
  split
  · omega
  · rw [e1] at e2 ⊢
    generalize (wB (ixT _)).length = W at *
    simp only [List.map_cons, List.map_append, List.sum_cons, List.sum_append] at e2 ⊢
    have e5 : cntP (dat (keyO [kT, t.name], headT t)).2 = ((wB (headT t)).length + 51) / 52 := rfl
    have e6 : (dat (keyO [kT, t.name], headT t)).1.size = (keyO [kT, t.name]).size := rfl
    rw [e5, e6] at e2
    rw [e5]
    have e7 : cntP W = (W + 51) / 52 := rfl
    rw [e7, chT]
    omega
/-- a tenant that may be has all its objects -/
theorem obj_fit (t : Tnt) (h : tenB t = true) : ∀ x ∈ objT t, wE x.2 = 0 := by
  simp only [tenB, Bool.and_eq_true, decide_eq_true_eq] at h
  obtain ⟨hn, _, _, hs, hg, hst, hl, hl2⟩ := h
  obtain ⟨h1, h2, h3⟩ := head_small t hg hl hl2
  simp only [setsB, Bool.and_eq_true, List.all_eq_true] at hs
  simp only [stsB, Bool.and_eq_true, List.all_eq_true] at hst
  intro x hx
  simp only [objT, List.mem_cons, List.mem_append, List.mem_map] at hx
  rcases hx with rfl | ⟨s, hs', rfl⟩ | ⟨s, hs', rfl⟩
  · exact wE_small (show (headT t).length ≤ 1024 by omega) h3
  · obtain ⟨d0, _, d1, _⟩ := dst_small _ s (hs.2.2.1 s hs')
    exact wE_small (show (dstT s).length ≤ 1024 by omega) d1
  · obtain ⟨d0, _, d1, _⟩ := stg_small s (hst.2.1 s hs')
    exact wE_small (show (stgT s).length ≤ 1024 by omega) d1
end Go.Proofs.YtckaneapjpiocaaGreatDoor
/- The items of a world chosen anew, moved, joined. Laws over whatever program. -/
namespace Go.Proofs.YtckaneapjpiocaaGreatDoor
open Go.RowKit
set_option linter.unusedVariables false
set_option linter.unusedSimpArgs false

theorem Heap.sub' {w0 w : World} {its its' : List It} (H : Heap w0 its w) (f : Nat → Nat) (hf : ∀ i j, f i = f j → i = j) (h : ∀ i x, its'[i]? = some x → its[f i]? = some x) : Heap w0 its' w :=
  ⟨H.ext, fun i x hx => H.all (f i) x (h i x hx), fun i j x y k hij hx hy => H.apart (f i) (f j) x y k (fun e => hij (hf i j e)) (h i x hx) (h j y hy)⟩
theorem Heap.pick {w0 w : World} {its its' : List It} (H : Heap w0 its w) (p : List Nat) (hp : p.Nodup) (hv : p.all (fun i => decide (i < its.length)) = true) (h : its' = p.filterMap fun i => its[i]?) : Heap w0 its' w := by
  have hv' : ∀ i ∈ p, i < its.length := fun i hi => by simpa using List.all_eq_true.1 hv i hi
  have hl : ∀ (p : List Nat), (∀ i ∈ p, i < its.length) → ∀ i : Nat, (p.filterMap fun i => its[i]?)[i]? = p[i]?.bind fun j => its[j]? := by
    intro p
    induction p with
    | nil => intro _ i; simp
    | cons a p ih =>
      intro hq i
      have ha := hq a (List.mem_cons_self ..)
      rw [List.filterMap_cons, List.getElem?_eq_getElem ha]
      cases i with
      | zero => simp [List.getElem?_eq_getElem ha]
      | succ i => simpa using ih (fun j hj => hq j (List.mem_cons_of_mem _ hj)) i
  subst h
  refine H.sub' (fun i => match p[i]? with | some j => j | none => its.length + i) (fun i j e => ?_) fun i x hx => ?_
  · (try dsimp only at e)
    cases hi : p[i]? with
    | none =>
      cases hj : p[j]? with
      | none => rw [hi, hj] at e; dsimp only at e; omega
      | some b => rw [hi, hj] at e; dsimp only at e; have := hv' b (List.mem_of_getElem? hj); omega
    | some a =>
      cases hj : p[j]? with
      | none => rw [hi, hj] at e; dsimp only at e; have := hv' a (List.mem_of_getElem? hi); omega
      | some b =>
        rw [hi, hj] at e
        dsimp only at e
        subst e
        obtain ⟨h1, h2⟩ := List.getElem?_eq_some_iff.1 hi
        obtain ⟨h3, h4⟩ := List.getElem?_eq_some_iff.1 hj
        rcases Nat.lt_trichotomy i j with h5 | h5 | h5
        · exact absurd (h2.trans h4.symm) (List.pairwise_iff_getElem.1 hp i j h1 h3 h5)
        · exact h5
        · exact absurd (h4.trans h2.symm) (List.pairwise_iff_getElem.1 hp j i h3 h1 h5)
  · rw [hl p hv'] at hx
    cases hi : p[i]? with
    | none => rw [hi] at hx; cases hx
    | some a => rw [hi] at hx; exact hx
theorem Heap.mid {w0 w : World} {x : It} {a b : List It} (H : Heap w0 (x :: (a ++ b)) w) : Heap w0 (a ++ x :: b) w := by
  refine H.sub' (fun i => if i < a.length then i + 1 else if i = a.length then 0 else i) (fun i j e => ?_) fun i y hy => ?_
  · split at e <;> split at e <;> (try split at e) <;> (try split at e) <;> omega
  · by_cases h1 : i < a.length
    · rw [if_pos h1, List.getElem?_cons_succ, List.getElem?_append_left h1]
      rwa [List.getElem?_append_left h1] at hy
    · rw [if_neg h1]
      by_cases h2 : i = a.length
      · subst h2
        rw [if_pos rfl]
        rw [List.getElem?_append_right (Nat.le_refl _), Nat.sub_self] at hy
        simpa using hy
      · rw [if_neg h2]
        rw [List.getElem?_append_right (by omega)] at hy
        obtain ⟨k, hk⟩ : ∃ k, i = a.length + 1 + k := ⟨i - a.length - 1, by omega⟩
        subst hk
        rw [show a.length + 1 + k - a.length = k + 1 by omega, List.getElem?_cons_succ] at hy
        rw [show a.length + 1 + k = (a.length + k) + 1 by omega, List.getElem?_cons_succ, List.getElem?_append_right (by omega), show a.length + k - a.length = k by omega]
        exact hy
theorem Heap.back {w0 w : World} {x : It} {a : List It} (H : Heap w0 (x :: a) w) : Heap w0 (a ++ [x]) w := Heap.mid (b := []) (by simpa using H)
theorem It.lower {x : It} {base base' : Nat} {w : World} (h : x.holds base w) (hb : base' ≤ base) : x.holds base' w := by
  cases x with
  | box b vs => exact ⟨Nat.le_trans hb h.1, h.2⟩
  | row e size v n xs => exact own_lower h hb
  | rd A cs =>
    intro hn
    obtain ⟨b, o, he, h1, h2, h3⟩ := h hn
    exact ⟨b, o, he, h1, Nat.le_trans hb h2, h3⟩
  | any S p lt keep => exact ⟨fun k hk => Nat.le_trans hb (h.1 k hk), h.2⟩
theorem It.at_ge {x : It} {base k : Nat} {w : World} (h : x.holds base w) (ha : x.at' k) : base ≤ k := by
  cases x with
  | box b vs => cases ha; exact h.1
  | row e size v n xs => exact (World.ownsRow.lt h k ha).1
  | rd A cs =>
    obtain ⟨hn, a, rfl, rfl⟩ := ha
    obtain ⟨b, o, he, h1, h2, h3⟩ := h hn
    cases he
    exact h2
  | any S p lt keep => exact h.1 k ha
theorem Heap.joinR {w0 w w' : World} {its its2 : List It} (H : Heap w0 its w) (H2 : Heap w its2 w') : Heap w0 (its ++ its2) w' := by
  have hl := H.later H2.ext
  refine ⟨hl.ext, fun i x hx => ?_, fun i j x y k hij hx hy ho ha => ?_⟩
  · by_cases h1 : i < its.length
    · rw [List.getElem?_append_left h1] at hx
      exact hl.all _ x hx
    · rw [List.getElem?_append_right (by omega)] at hx
      exact It.lower (H2.all _ x hx) H.ext.size
  · by_cases h1 : i < its.length
    · rw [List.getElem?_append_left h1] at hx
      by_cases h2 : j < its.length
      · rw [List.getElem?_append_left h2] at hy
        exact H.apart i j x y k hij hx hy ho ha
      · rw [List.getElem?_append_right (by omega)] at hy
        have a1 := It.at_ge (H2.all _ y hy) ha
        have a2 := It.at_lt (H.all _ x hx) (It.own_at ho)
        omega
    · rw [List.getElem?_append_right (by omega)] at hx
      by_cases h2 : j < its.length
      · rw [List.getElem?_append_left h2] at hy
        have a1 := It.at_ge (H2.all _ x hx) (It.own_at ho)
        have a2 := It.at_lt (H.all _ y hy) ha
        omega
      · rw [List.getElem?_append_right (by omega)] at hy
        exact H2.apart _ _ x y k (fun e => hij (by omega)) hx hy ho ha
end Go.Proofs.YtckaneapjpiocaaGreatDoor
/- tenant.writer: text, number, own, octets, object, as long as nothing is refused. The writer is two items at the head: a box that holds a slice, and the row of texts. -/
namespace Go.Proofs.YtckaneapjpiocaaGreatDoor
open Go.RowKit Go.Maps Go.Sort Go.Shelf
set_option linter.unusedVariables false
set_option linter.unusedSimpArgs false

abbrev wri (b : Nat) (v : Value) (n : Nat) (xs : List ByteArray) (its : List It) : List It := .box b [v] :: .row 9 1 v n (xs.map Value.string) :: its
set_option maxRecDepth 100000 in
set_option maxHeartbeats 4000000 in
theorem wtext_any {w0 w : World} {its : List It} (b : Nat) (v : Value) (n : Nat) (xs ys : List ByteArray) (H : Heap w0 (wri b v n xs its) w) (A : Option Addr) (m c : Nat) (hm : m = ys.length) (hr : Rd w 0 w.heap.size A (ys.map Value.string)) (hN : n + m ≤ 100000000) :
    Calls Tryz.prog 87 #[.pointer (some ⟨b, 0, none⟩), .slice A m c] w fun e w' => ∃ v', e = .returned (.tuple #[]) ∧ Heap w0 (wri b v' (n + m) (xs ++ ys) its) w' := by
  obtain ⟨i0, hi0, hz0, hz1, hz2⟩ := info_parts infoT
  have HH := Lib.hid H
  have HR := Lib.hid hr
  have Hm := Lib.hid hm
  have HO := Lib.hid (show ∀ u ∈ ys.map Value.string, u.oneCell' = true from fun u hu => by obtain ⟨y, _, rfl⟩ := List.mem_map.1 hu; rfl)
  clear H hr hm
  go_enter Tryz.func87, Tryz.ntmps87
  go_wp2_with (first | (refine shl_load1 HH.out rfl rfl rfl 0 rfl rfl (by decide +kernel) ?_) | (refine shl_app (e := 9) (size := 1) (bytes := 16) (news := ys.map Value.string) (lo := 0) (.tmp 8) (.tmp 9) _ rfl rfl Tryz.underlying109 hi0 hz0 hz1 hz2 rfl (by omega) HH.out 1 rfl rfl (m := m) rfl (by rw [Nat.mul_one, List.length_map]; exact Hm.out.symm) HR.out HO.out (by simp only [maxLen]; omega) (by omega) ?_; intro v7 w7 hh7 h7; clear HH; obtain ⟨A7, c7, rfl⟩ := h7; have HH := Lib.hid hh7; clear hh7) | (refine shl_store1 HH.out rfl rfl rfl rfl 0 rfl rfl rfl (by kernel_rfl) ?_; clear HH; intro wS HHS; have HH := Lib.hid HHS; clear HHS))
  go_end0
  refine ⟨rfl, .slice A7 (n + m) c7, ?_⟩
  have h := HH.out
  rw [wri, List.map_append]
  exact h
set_option maxRecDepth 100000 in
set_option maxHeartbeats 4000000 in
theorem wnumber_any {w0 w : World} {its : List It} (b : Nat) (v : Value) (n : Nat) (xs : List ByteArray) (H : Heap w0 (wri b v n xs its) w) (A : Option Addr) (m c : Nat) (zs : List Int) (hm : m = zs.length) (hr : Rd w 0 w.heap.size A (ints zs)) (hN : n + m ≤ 100000000) (hwf : ∀ z ∈ zs, -9223372036854775808 ≤ z ∧ z ≤ 9223372036854775807) :
    Calls Tryz.prog 86 #[.pointer (some ⟨b, 0, none⟩), .slice A m c] w fun e w' => ∃ v', e = .returned (.tuple #[]) ∧ Heap w0 (wri b v' (n + m) (xs ++ zs.map num8) its) w' := by
  have HH := Lib.hid H
  have HNu := Lib.hid (numbers_any w A m c zs hm hr (by omega) hwf)
  have Hm := Lib.hid (show m = (zs.map num8).length by rw [List.length_map]; exact hm)
  have HE := Lib.hid (show num8s zs = (zs.map num8).map Value.string by rw [List.map_map]; rfl)
  clear H hr hwf hm
  go_enter Tryz.func86, Tryz.ntmps86
  go_wp2_with fail
  refine HNu.out.mono ?_
  rintro e w2 ⟨v2, rfl, hown, e2⟩
  obtain ⟨A2, c2, rfl, k1, k2, _⟩ := own_form hown
  have HR2 := Lib.hid (show Rd w2 0 w2.heap.size A2 ((zs.map num8).map Value.string) by rw [← HE.out]; exact (Rd.of_own hown).more (Nat.zero_le _) (Nat.le_refl _))
  have HH2 := Lib.hid (HH.out.later e2)
  clear HH hown e2
  go_wp2_with fail
  refine (wtext_any b v n xs (zs.map num8) HH2.out A2 m c2 Hm.out HR2.out hN).mono ?_
  rintro e w3 ⟨v3, rfl, h3⟩
  have HH3 := Lib.hid h3
  clear h3 HH2 HR2
  go_wp2_with fail
  go_end0
  first | exact ⟨v3, rfl, HH3.out⟩ | exact ⟨rfl, v3, HH3.out⟩
set_option maxRecDepth 100000 in
theorem wneed_true (w : World) (q : Int) : Calls Tryz.prog 46 #[.bool true, .int .i64 q] w fun e w' => e = .returned (.tuple #[]) ∧ w' = w := by
  go_enter Tryz.func46, Tryz.ntmps46
  go_wp2_with fail
  go_end0
  exact ⟨rfl, rfl⟩
set_option maxRecDepth 100000 in
set_option maxHeartbeats 4000000 in
theorem woctets_any {w0 w : World} {its : List It} (b : Nat) (v : Value) (n : Nat) (xs : List ByteArray) (H : Heap w0 (wri b v n xs its) w) (A : Option Addr) (m c : Nat) (bs : List UInt8) (hm : m = bs.length) (hM : m ≤ 100000000) (hr : Rd w 0 w.heap.size A (bytes bs)) (hN : n + 1 ≤ 100000000) :
    Calls Tryz.prog 90 #[.pointer (some ⟨b, 0, none⟩), .slice A m c, .int .i64 0] w fun e w' => ∃ v', e = .returned (.tuple #[]) ∧ Heap w0 (wri b v' (n + 1) (xs ++ [strO bs]) its) w' := by
  have HH := Lib.hid H
  have HC := Lib.hid (fun W (hW : Ext w W) => run_conv_str (P := Tryz.prog) W 53 9 5 Tryz.underlying53 Tryz.underlying5 Tryz.underlying9 _ _ A m c bs hm (Rd.at hr hW (Nat.le_refl _)))
  have Hm := Lib.hid hm
  clear H hr hm
  go_enter Tryz.func90, Tryz.ntmps90
  go_wp2_with fail
  refine (wneed_true w 0).mono ?_
  rintro e w1 ⟨rfl, rfl⟩
  have hcv := HC.out w1 (Ext.refl _)
  clear HC
  go_wp2_with fail
  generalize hwA : World.alloc w1 _ = w2
  have HH2 := Lib.hid (HH.out.allocE hwA)
  clear hwA HH hcv
  have HR2 := Lib.hid (show Rd w2 0 w2.heap.size (some ⟨w1.heap.size, 0, none⟩) ([strO bs].map Value.string) from (HH2.out.boxRd 0 rfl).more (Nat.zero_le _) (Nat.le_refl _))
  refine (wtext_any b v n xs [strO bs] HH2.out.tail _ 1 1 rfl HR2.out hN).mono ?_
  rintro e w3 ⟨v3, rfl, h3⟩
  have HH3 := Lib.hid h3
  clear h3 HH2 HR2
  go_wp2_with fail
  go_end0
  first | exact ⟨v3, rfl, HH3.out⟩ | exact ⟨rfl, v3, HH3.out⟩
set_option maxRecDepth 100000 in
set_option maxHeartbeats 4000000 in
theorem wown_any {w0 w : World} {its : List It} (b : Nat) (v : Value) (n : Nat) (xs : List ByteArray) (H : Heap w0 (wri b v n xs its) w) (A : Option Addr) (m c : Nat) (ps : List Prp) (hm : m = ps.length) (hM : m ≤ 10000000) (hr : Rd w0 0 w0.heap.size A (prps ps)) (hN : n ≤ 10000000) :
    Calls Tryz.prog 89 #[.pointer (some ⟨b, 0, none⟩), .slice A m c] w fun e w' => ∃ v', e = .returned (.tuple #[]) ∧ Heap w0 (wri b v' (n + (1 + m * 2)) (xs ++ ownT ps) its) w' := by
  have HH := Lib.hid H
  have HT := Lib.hid (fun W (hW : Ext w0 W) => ptext_any W A m c ps hm (by omega) (Rd.at hr hW (Nat.le_refl _)))
  have Hm := Lib.hid hm
  clear H hr hm
  go_enter Tryz.func89, Tryz.ntmps89
  go_wp2_with fail
  generalize hwA : World.alloc w _ = w2
  have HH2 := Lib.hid (HH.out.allocE hwA)
  clear hwA HH
  refine (wnumber_any b v n xs HH2.out.tail _ 1 1 [(m : Int)] rfl ((HH2.out.boxRd 0 rfl).more (Nat.zero_le _) (Nat.le_refl _)) (by omega) (by intro z hz; simp only [List.mem_singleton] at hz; subst hz; omega)).mono ?_
  rintro e w3 ⟨v3, rfl, h3⟩
  have HH3 := Lib.hid h3
  clear h3 HH2
  go_wp2_with fail
  refine (HT.out w3 HH3.out.ext).mono ?_
  rintro e w4 ⟨v4, rfl, hown, e4⟩
  obtain ⟨A4, c4, rfl, k1, k2, _⟩ := own_form hown
  have HR4 := Lib.hid (show Rd w4 0 w4.heap.size A4 ((ptext ps).map Value.string) from (Rd.of_own hown).more (Nat.zero_le _) (Nat.le_refl _))
  have HH4 := Lib.hid (HH3.out.later e4)
  have HX := Lib.hid (show ownT ps = [num8 (m : Int)] ++ ptext ps by rw [ownT, Hm.out]; rfl)
  clear HH3 hown e4 HT
  go_wp2_with fail
  refine (wtext_any b v3 (n + 1) _ (ptext ps) HH4.out A4 (m * 2) c4 (by rw [ptext_length, Hm.out]) HR4.out (by omega)).mono ?_
  rintro e w5 ⟨v5, rfl, h5⟩
  have HH5 := Lib.hid h5
  clear h5 HH4 HR4
  go_wp2_with fail
  go_end0
  have h : Heap w0 (wri b v5 (n + (1 + m * 2)) (xs ++ ownT ps) its) w5 := by
    rw [HX.out, ← List.append_assoc, ← Nat.add_assoc]
    exact HH5.out
  first | exact ⟨v5, rfl, h⟩ | exact ⟨rfl, v5, h⟩
theorem join_any0 (w : World) (A : Option Addr) (n c : Nat) (ks : List ByteArray) (hn : n = ks.length) (hc : n ≤ c) (hN : n ≤ 1000) (hl : (keyO ks).size ≤ 100000000) (hr : Rd w 0 w.heap.size A (ks.map Value.string)) :
    Calls Tryz.prog 145 #[.slice A n c, .string ⟨#[47]⟩] w fun e w' => e = .returned (.string (keyO ks)) ∧ Ext w w' := by
  subst hn
  by_cases h0 : ks = []
  · subst h0
    refine (Tryz.strings_Join_none A c ⟨#[47]⟩ w).mono ?_
    rintro e w' ⟨rfl, rfl⟩
    exact ⟨rfl, Ext.refl _⟩
  · obtain ⟨b, o, rfl, _, hb, hcl⟩ := hr (by simpa using h0)
    exact Tryz.strings_Join b o c ks ⟨#[47]⟩ w (fun j x hx => hcl j _ (by rw [List.getElem?_map, hx]; rfl)) hb (by omega) hc (by
      have e : (keyO ks).size = (Go.Lib.join (ks.map (·.data.toList)) [47]).length := List.size_toArray
      rw [e] at hl
      exact Nat.le_trans hl (by decide))
theorem sizeObj : (Tryz.prog.info? 56).map (·.size) = some 3 := by kernel_rfl
/-- an object is told: its key, and its octets in a row of the call's own -/
def ObjOk (w w' : World) (k : ByteArray) (bs : List UInt8) (e : Ending) : Prop :=
  ∃ A m c, e = .returned (.agg #[.string k, .slice A m c, .slice none 0 0]) ∧ w'.ownsRow w.heap.size 5 1 (.slice A m c) m (bytes bs) ∧ m = bs.length ∧ Ext w w'
set_option maxRecDepth 100000 in
set_option maxHeartbeats 4000000 in
theorem wobject_any {w0 w : World} {its : List It} (b : Nat) (A0 : Option Addr) (c0 n : Nat) (xs : List ByteArray) (H : Heap w0 (wri b (.slice A0 n c0) n xs its) w) (A : Option Addr) (m c : Nat) (ks : List ByteArray) (hm : m = ks.length) (hc : m ≤ c) (hM : m ≤ 1000) (hr : Rd w 0 w.heap.size A (ks.map Value.string)) (hx : n = xs.length) (hN : n ≤ 10000000) (hE : wE xs = 0) (hl : (keyO ks).size ≤ 100000000) :
    Calls Tryz.prog 88 #[.pointer (some ⟨b, 0, none⟩), .slice A m c] w fun e w' => ObjOk w w' (keyO ks) (flat xs) e := by
  have HH := Lib.hid H
  have HW := Lib.hid (fun W (hW : Ext w W) => show Calls Tryz.prog 97 #[.slice A0 n c0] W fun e w' => ∃ v, e = .returned (.tuple #[v, .int .i64 0]) ∧ w'.ownsRow W.heap.size 5 1 v (flat xs).length (bytes (flat xs)) ∧ Ext W w' from (write_any W A0 n c0 xs hx (by omega) (Rd.at ((Rd.of_own (H.rowAt 1 rfl)).more (Nat.zero_le _) (Nat.le_refl _)) hW (Nat.le_refl _))).mono (fun e w' h => by
    obtain ⟨v, h1, h2, h3⟩ := h
    rw [hE] at h1
    rw [show wB xs = flat xs by rw [wB, if_pos hE]] at h2
    exact ⟨v, h1, h2, h3⟩))
  have HJ := Lib.hid (fun W (hW : Ext w W) => join_any0 W A m c ks hm hc hM hl (Rd.at hr hW (Nat.le_refl _)))
  have HG := Lib.hid (show w.cell? ⟨b, 0, none⟩ = some (.slice A0 n c0) from (H.boxAt 0 rfl).cell 0 _ rfl)
  clear H hr hm hE hx hl hc hN hM
  go_enter Tryz.func88, Tryz.ntmps88
  go_upto_region 1 with fail
  generalize hwH : World.alloc w _ = w1; have HH := Lib.hid (Heap.one hwH); clear hwH
  have g0 : w1.cell? ⟨b, 0, none⟩ = some (.slice A0 n c0) := (Below.cell HH.out.ext (World.block_lt_of_cell? w _ HG.out)).trans HG.out
  clear HG
  go_wp2_with fail
  clear g0
  refine (HW.out _ HH.out.ext).mono ?_
  rintro e w2 ⟨v2, rfl, hown, e2⟩
  obtain ⟨A2, c2, rfl, k1, k2, _⟩ := own_form hown
  have HH2 := Lib.hid (HH.out.addRow e2 hown)
  clear HH hown e2
  go_wp2_with fail
  refine (wneed_true w2 0).mono ?_
  rintro e w3 ⟨rfl, rfl⟩
  go_wp2_with fail
  refine (HJ.out w3 HH2.out.ext).mono ?_
  rintro e w4 ⟨rfl, e4⟩
  have HH := Lib.hid (HH2.out.later e4)
  clear HH2 e4
  go_wp2_with (refine shl_store HH.out sizeObj rfl rfl rfl rfl 1 rfl rfl rfl rfl ?_; clear HH; intro wS HHS; have HH := Lib.hid HHS; clear HHS)
  refine ret_cell sizeObj (by kernel_rfl) HH.out rfl rfl 1 rfl rfl rfl ?_
  exact ⟨A2, _, c2, rfl, HH.out.rowAt 0 rfl, rfl, HH.out.ext⟩
theorem ownT_len (l : List Prp) : (ownT l).length = 1 + l.length * 2 := by rw [ownT, List.length_cons, ptext_length]; omega
theorem flat_le {α : Type} (f : α → List ByteArray) (l : List α) (k : Nat) (h : k < l.length) : ((l.take k).flatMap f).length + (f l[k]).length ≤ (l.flatMap f).length := by
  have e : l = l.take k ++ l[k] :: l.drop (k + 1) := by simp
  have : (l.flatMap f).length = ((l.take k ++ l[k] :: l.drop (k + 1)).flatMap f).length := by rw [← e]
  rw [this, List.flatMap_append, List.flatMap_cons, List.length_append, List.length_append]; omega
theorem wE_len {l : List ByteArray} (h : wE l = 0) : l.length ≤ 1024 := by
  have : ¬ 1024 < l.length := fun h' => by rw [wE, if_pos h'] at h; cases h
  omega
/-- the writer, its slice in sight -/
abbrev wtr (b : Nat) (A : Option Addr) (c : Nat) (xs : List ByteArray) (its : List It) : List It := wri b (.slice A xs.length c) xs.length xs its
theorem wr_of {w0 w : World} {its : List It} {b n : Nat} {v : Value} {xs : List ByteArray} (H : Heap w0 (wri b v n xs its) w) : ∃ A c, Heap w0 (wtr b A c xs its) w := by
  have hr := H.rowAt 1 rfl
  obtain ⟨A, c, rfl, _, _, _⟩ := own_form hr
  have hn : xs.length = n := by have := hr.1; rw [List.length_map, Nat.mul_one] at this; exact this
  subst hn
  exact ⟨A, c, H⟩
theorem wtr0 {w0 w : World} {its : List It} {b : Nat} (H : Heap w0 (.box b [.slice none 0 0] :: its) w) : Heap w0 (wtr b none 0 [] its) w := by
  have h := H.row0 (e := 9) (size := 1)
  exact (show Heap w0 (.row 9 1 (.slice none 0 0) 0 [] :: ([.box b [.slice none 0 0]] ++ its)) w from h).mid
theorem wtr_push {w0 w : World} {x : It} {its : List It} {b : Nat} {A : Option Addr} {c : Nat} {xs : List ByteArray} (H : Heap w0 (x :: wtr b A c xs its) w) : Heap w0 (wtr b A c xs (x :: its)) w :=
  (show Heap w0 (x :: ([.box b [.slice A xs.length c], .row 9 1 (.slice A xs.length c) xs.length (xs.map Value.string)] ++ its)) w from H).mid
theorem wtr_drop {w0 w : World} {x : It} {its : List It} {b : Nat} {A : Option Addr} {c : Nat} {xs : List ByteArray} (H : Heap w0 (wtr b A c xs (x :: its)) w) : Heap w0 (wtr b A c xs its) w := by
  refine H.sub' (fun i => if i < 2 then i else i + 1) (fun i j e => ?_) fun i y hy => ?_
  · split at e <;> split at e <;> omega
  · match i with
    | 0 => exact hy
    | 1 => exact hy
    | i + 2 =>
      rw [if_neg (by omega)]
      exact hy
theorem ObjOk.lower {w0 w w' : World} {k : ByteArray} {bs : List UInt8} {e : Ending} (h : ObjOk w w' k bs e) (e0 : Ext w0 w) : ObjOk w0 w' k bs e := by
  obtain ⟨A, m, c, h1, h2, h3, h4⟩ := h
  exact ⟨A, m, c, h1, own_lower h2 e0.size, h3, e0.trans h4⟩
section
variable {w0 w : World} {its : List It} (b : Nat) (A0 : Option Addr) (c0 : Nat) (xs : List ByteArray)
theorem wr_text (ys : List ByteArray) (H : Heap w0 (wtr b A0 c0 xs its) w) (A : Option Addr) (m c : Nat) (hm : m = ys.length) (hr : Rd w 0 w.heap.size A (ys.map Value.string)) (hN : xs.length + m ≤ 100000000) :
    Calls Tryz.prog 87 #[.pointer (some ⟨b, 0, none⟩), .slice A m c] w fun e w' => e = .returned (.tuple #[]) ∧ ∃ A' c', Heap w0 (wtr b A' c' (xs ++ ys) its) w' :=
  (wtext_any b _ _ xs ys H A m c hm hr hN).mono fun e w' h => by
    obtain ⟨v, h1, h2⟩ := h
    exact ⟨h1, wr_of h2⟩
theorem wr_number (zs : List Int) (H : Heap w0 (wtr b A0 c0 xs its) w) (A : Option Addr) (m c : Nat) (hm : m = zs.length) (hr : Rd w 0 w.heap.size A (ints zs)) (hN : xs.length + m ≤ 100000000) (hwf : ∀ z ∈ zs, -9223372036854775808 ≤ z ∧ z ≤ 9223372036854775807) :
    Calls Tryz.prog 86 #[.pointer (some ⟨b, 0, none⟩), .slice A m c] w fun e w' => e = .returned (.tuple #[]) ∧ ∃ A' c', Heap w0 (wtr b A' c' (xs ++ zs.map num8) its) w' :=
  (wnumber_any b _ _ xs H A m c zs hm hr hN hwf).mono fun e w' h => by
    obtain ⟨v, h1, h2⟩ := h
    exact ⟨h1, wr_of h2⟩
theorem wr_octets (bs : List UInt8) (H : Heap w0 (wtr b A0 c0 xs its) w) (A : Option Addr) (m c : Nat) (hm : m = bs.length) (hM : m ≤ 100000000) (hr : Rd w 0 w.heap.size A (bytes bs)) (hN : xs.length + 1 ≤ 100000000) :
    Calls Tryz.prog 90 #[.pointer (some ⟨b, 0, none⟩), .slice A m c, .int .i64 0] w fun e w' => e = .returned (.tuple #[]) ∧ ∃ A' c', Heap w0 (wtr b A' c' (xs ++ [strO bs]) its) w' :=
  (woctets_any b _ _ xs H A m c bs hm hM hr hN).mono fun e w' h => by
    obtain ⟨v, h1, h2⟩ := h
    exact ⟨h1, wr_of h2⟩
theorem wr_own (ps : List Prp) (H : Heap w0 (wtr b A0 c0 xs its) w) (A : Option Addr) (m c : Nat) (hm : m = ps.length) (hM : m ≤ 10000000) (hr : Rd w0 0 w0.heap.size A (prps ps)) (hN : xs.length ≤ 10000000) :
    Calls Tryz.prog 89 #[.pointer (some ⟨b, 0, none⟩), .slice A m c] w fun e w' => e = .returned (.tuple #[]) ∧ ∃ A' c', Heap w0 (wtr b A' c' (xs ++ ownT ps) its) w' :=
  (wown_any b _ _ xs H A m c ps hm hM hr hN).mono fun e w' h => by
    obtain ⟨v, h1, h2⟩ := h
    exact ⟨h1, wr_of h2⟩
theorem wr_object (ks : List ByteArray) (H : Heap w0 (wtr b A0 c0 xs its) w) (A : Option Addr) (m c : Nat) (hm : m = ks.length) (hc : m ≤ c) (hM : m ≤ 1000) (hr : Rd w 0 w.heap.size A (ks.map Value.string)) (hE : wE xs = 0) (hl : (keyO ks).size ≤ 100000000) :
    Calls Tryz.prog 88 #[.pointer (some ⟨b, 0, none⟩), .slice A m c] w fun e w' => ObjOk w w' (keyO ks) (flat xs) e :=
  wobject_any b A0 c0 _ xs H A m c ks hm hc hM hr rfl (by
    have : ¬ 1024 < xs.length := fun h => by rw [wE, if_pos h] at hE; cases hE
    omega) hE hl
end
end Go.Proofs.YtckaneapjpiocaaGreatDoor
/- A struct is read where its cells read: a step of an undrawn region, and of a drawn one. Laws over whatever program. -/
namespace Go.Proofs.YtckaneapjpiocaaGreatDoor
open Go.RowKit
set_option linter.unusedVariables false
section
variable {P : Program} {w : World} {o' : Oper} {a : Act}
theorem rl_run {t : TypeId} {x : Operand} {b o n : Nat} {cs : List Value} (hc : ∀ j u, cs[j]? = some u → w.cell? ⟨b, o + j, none⟩ = some u) (hn : cs.length = n) (hs : (P.info? t).map (·.size) = some n) (hk : rowK P t = some true) (ho : o'.op = .load t x) (hx : a.eval x = .pointer (some ⟨b, o, none⟩)) :
    (execOp a.eval o').run P w = .ok (.value (.agg cs.toArray)) w := by
  subst hn
  have hc := run_loadCells_list (P := P) w ⟨b, o, none⟩ cs (fun j u hu => by rw [add_lit]; exact hc j u hu)
  unfold execOp
  simp [ho, hx, Instr.loadAt, Instr.sureAddr, loadVar, run_isAgg_of hk, sizeOf_run hs, hc]
variable {ops : Array Oper} {rest : List Oper} {Q : Exit → Act → World → Prop}
theorem rl_load {t : TypeId} {x : Operand} {b o n : Nat} {cs : List Value} (hc : ∀ j u, cs[j]? = some u → w.cell? ⟨b, o + j, none⟩ = some u) (hn : cs.length = n) (hs : (P.info? t).map (·.size) = some n) (hk : rowK P t = some true) (ho : o'.op = .load t x) (hgd : o'.guard = none) (hx : a.eval x = .pointer (some ⟨b, o, none⟩))
    (k : wpList P ops Q rest (a.put o'.dst (.agg cs.toArray)) w) : wpList P ops Q (o' :: rest) a w :=
  wpList_plain hgd fun K hK => by
    unfold Oper.wp
    rw [rl_run hc hn hs hk ho hx]
    exact hK _ _ k
end
end Go.Proofs.YtckaneapjpiocaaGreatDoor
