/- The texts Fre in one file. -/
import Derived.Test.YtfongpdeflfioaaGreatM5
/- space.Free: the sectors that are not used. -/
namespace Go.Proofs.YtfongpdeflfioaaGreat
open Go.RowKit Go.Maps Go.Sort Go.Shelf
set_option linter.unusedVariables false
set_option linter.unusedSimpArgs false

/-- 2, 3, .. -/
def upI (k : Nat) : List Int := (List.range k).map fun j => ((j : Nat) : Int) + 2
theorem upI_succ (k : Nat) : upI (k + 1) = upI k ++ [(k : Int) + 2] := by simp [upI, List.range_succ]
theorem upI_len (k : Nat) : (upI k).length = k := by simp [upI]
theorem mem_upI {k : Nat} {x : Int} : x ∈ upI k ↔ 2 ≤ x ∧ x < (k : Int) + 2 := by
  simp only [upI, List.mem_map, List.mem_range]
  constructor
  · rintro ⟨j, hj, rfl⟩
    omega
  · rintro ⟨h1, h2⟩
    exact ⟨(x - 2).toNat, by omega, by omega⟩
theorem insI_last {n : Int} : ∀ {l : List Int}, (∀ x ∈ l, x < n) → insI n l = l ++ [n]
  | [], _ => rfl
  | y :: r, h => by
    have hy := h y List.mem_cons_self
    rw [insI, if_neg (by omega), insI_last fun x hx => h x (List.mem_cons_of_mem _ hx)]
    rfl
theorem delI_none {n : Int} {l : List Int} (h : n ∉ l) : delI l n = l := by
  rw [delI, List.filter_eq_self]
  intro a ha
  have : a ≠ n := fun e => h (e ▸ ha)
  simpa using this
theorem upI_put (k : Nat) : putI (upI k) ((k : Int) + 2) = upI (k + 1) := by
  have hn : ((k : Int) + 2) ∉ upI k := fun h => by have := (mem_upI.1 h).2; omega
  rw [putI, delI_none hn, insI_last (fun x hx => (mem_upI.1 hx).2), upI_succ]
theorem upI_sorted : ∀ k, SortI (upI k)
  | 0 => List.Pairwise.nil
  | k + 1 => by rw [← upI_put]; exact putI_sorted (upI_sorted k)
/-- the sectors of so many that are not on a list -/
def freeL (total : Int) (l : List Int) : List Int := l.foldl delI (upI (total - 2).toNat)
theorem freeL_snoc (a l : List Int) (n : Int) : (l ++ [n]).foldl delI a = delI (l.foldl delI a) n := by simp
theorem foldDel_sorted : ∀ (l a : List Int), SortI a → SortI (l.foldl delI a)
  | [], _, h => h
  | x :: l, a, h => foldDel_sorted l _ (delI_sorted h)
theorem mem_foldDel {x : Int} : ∀ (l a : List Int), x ∈ l.foldl delI a ↔ x ∈ a ∧ x ∉ l
  | [], a => by simp
  | y :: l, a => by
    rw [List.foldl_cons, mem_foldDel l, mem_delI, List.mem_cons]
    constructor
    · rintro ⟨⟨h1, h2⟩, h3⟩
      exact ⟨h1, fun h => h.elim h2 h3⟩
    · rintro ⟨h1, h2⟩
      exact ⟨⟨h1, fun h => h2 (.inl h)⟩, fun h => h2 (.inr h)⟩
theorem foldDel_len : ∀ (l a : List Int), (l.foldl delI a).length ≤ a.length
  | [], _ => Nat.le_refl _
  | y :: l, a => Nat.le_trans (foldDel_len l _) (List.length_filter_le _ _)
theorem mem_freeL {total x : Int} {l : List Int} (h : 2 ≤ total) : x ∈ freeL total l ↔ 2 ≤ x ∧ x < total ∧ x ∉ l := by
  rw [freeL, mem_foldDel, mem_upI]
  constructor
  · rintro ⟨⟨h1, h2⟩, h3⟩
    exact ⟨h1, by omega, h3⟩
  · rintro ⟨h1, h2, h3⟩
    exact ⟨⟨h1, by omega⟩, h3⟩
/-- what space.Free tells -/
def FrOut (w : World) (E : Int) (l : List Int) (e : Ending) (w' : World) : Prop :=
  ∃ v, e = .returned (.tuple #[v, .int .i64 E]) ∧ (E = 0 → w'.ownsRow w.heap.size 3 1 v l.length (ints l)) ∧ Ext w w'

set_option maxRecDepth 100000 in
set_option maxHeartbeats 4000000 in
theorem spfree_any (w : World) (total : Int) (s : Loc) (h : Loc.At w 0 w.heap.size s) (hN : s.n ≤ 10000000) :
    Calls Tryz.prog 36 #[.int .i64 total, s.val] w (FrOut w (spE total s.xs) (freeL total s.xs)) := by
  have hmm := @run_makeMap Tryz.prog
  have HC := Lib.hid (spcheck_any w total s h hN)
  have HL := Lib.hid h.len
  have HR := Lib.hid h.rdi
  have HW := Lib.hid h.all
  have hb : spE total s.xs = 0 → 2 ≤ total ∧ total ≤ 8192 := fun h0 => by
    unfold spE at h0
    split at h0
    · cases h0
    · rename_i h1
      omega
  have HB := Lib.hid hb
  clear h hb
  generalize spE total s.xs = E at *
  obtain ⟨A, n, c, xs⟩ := s
  simp only [Sl.val] at *
  by_cases hE : E = 0
  · subst hE
    obtain ⟨t0, t1⟩ := HB.out rfl
    obtain ⟨T, hT⟩ : ∃ T : Nat, total = (T : Int) + 2 := ⟨(total - 2).toNat, by omega⟩
    subst hT
    have HF := Lib.hid (show freeL ((T : Int) + 2) xs = xs.foldl delI (upI T) by rw [freeL]; congr 2; omega)
    generalize freeL ((T : Int) + 2) xs = fl at *
    go_enter Tryz.func36, Tryz.ntmps36
    go_upto_region 5 with (go_at_call 44; refine HC.out.mono ?_; rintro e w1 ⟨rfl, e1⟩)
    have HM0 := Lib.hid (show MapI (w1.alloc (.map #[] 0)) w1.heap.size 0 [] from World.ownsMap_made _ _ _ _)
    have E0 : Ext w (w1.alloc (.map #[] 0)) := e1.alloc _
    have hz := e1.size
    obtain ⟨b, hb⟩ : ∃ b, b = w1.heap.size := ⟨_, rfl⟩
    rw [← hb] at HM0 hz ⊢
    generalize World.alloc w1 _ = w2 at *
    clear hb HC HB
    go_upto_region 6 with fail
    go_loopw [8] (fun i wr => ∃ k : Nat, k ≤ T ∧ i = .int .i64 ((k : Int) + 2) ∧ Hid (MapI wr b k (upI k)) ∧ Ext w wr) (fun i _ => T + 2 - (intOf i).toNat)
    case atStart => exact ⟨0, Nat.zero_le _, rfl, HM0, E0⟩
    case round =>
      clear HM0 E0
      obtain ⟨k, hk, rfl, HM, e2⟩ := hrel
      by_cases hlt : k < T
      · have HP := Lib.hid (upI_put k)
        generalize upI k = out at *
        have hkl : (Lit.int .i64 ((k : Int) + 2)).wf = true := by
          simp only [Lit.wf, Bool.and_eq_true, decide_eq_true_eq]
          exact ⟨by show (-9223372036854775808 : Int) ≤ _; omega, by show _ ≤ (9223372036854775807 : Int); omega⟩
        go_wp2_with
          (at_mapUpdate
           refine wpList_mapUpdate_own _ rfl _ _ _ 118 rfl 3 4 lawI Tryz.underlying118 _ b _ _ rfl HM.out (by simp only [maxLen]; omega) _ _ _ rfl rfl (Maps.keyOf_int_mk Tryz.underlying3 hkl) _ [] (plainElem_bool Tryz.underlying4 true) ?_
           intro w4 hm4 hg4)
        have e4 : Ext w w4 := ext_mapped e2 hg4 hz
        have hm5 : MapI w4 b (k + 1) (putI out ((k : Int) + 2)) := by
          have h := dmI_put out ((k : Int) + 2)
          show w4.ownsMap _ _ _ _ _ (dmI _)
          rw [← h]
          exact hm4
        have HM5 := Lib.hid hm5
        clear hm4 hg4 hm5 e2 hkl
        go_wp2_with fail
        go_roundw
        case rel =>
          refine ⟨k + 1, by omega, by go_num, Lib.hid ?_, e4⟩
          rw [← HP.out]
          exact HM5.out
        case measure => simp [intOf]; omega
      · obtain rfl : k = T := by omega
        go_upto_region 10 with fail
        go_loopw [27] (fun i wr2 => ∃ j : Nat, j ≤ n ∧ i = .int .i64 j ∧ Hid (MapI wr2 b k ((xs.take j).foldl delI (upI k))) ∧ Ext w wr2) (fun i _ => n - (intOf i).toNat)
        case atStart => exact ⟨0, Nat.zero_le _, rfl, HM, e2⟩
        case round =>
          clear HM e2
          obtain ⟨j, hj, rfl, HM, e3⟩ := hrel
          by_cases hlj : j < n
          · have l3 : j < xs.length := by rw [← HL.out]; exact hlj
            obtain ⟨b2, o2, rfl, _, g0⟩ := rd_int2 (Rd.at HR.out e3 (Nat.le_refl _)) l3
            have HT2 := Lib.hid (show (xs.take (j + 1)).foldl delI (upI k) = delI ((xs.take j).foldl delI (upI k)) xs[j] by rw [List.take_succ_eq_append_getElem l3, freeL_snoc])
            have HWy := Lib.hid (HW.out _ (List.getElem_mem l3))
            generalize (xs.take j).foldl delI (upI k) = out at *
            generalize xs[j] = y at *
            go_wp2_with
              (at_delete
               refine wpList_delete_own _ rfl _ _ 118 3 rfl 4 lawI Tryz.underlying118 _ b _ _ rfl HM.out _ _ rfl (Maps.keyOf_int_mk Tryz.underlying3 HWy.out) ?_
               intro w4 hm4 hg4)
            have e4 : Ext w w4 := ext_mapped e3 hg4.grown hz
            have hm5 : MapI w4 b k (delI out y) := by
              have h := dmI_del out y
              show w4.ownsMap _ _ _ _ _ (dmI _)
              rw [← h]
              exact hm4
            have HM5 := Lib.hid hm5
            clear hm4 hg4 hm5 e3
            go_wp2_with fail
            go_roundw
            case rel =>
              refine ⟨j + 1, by omega, by go_num, Lib.hid ?_, e4⟩
              rw [HT2.out]
              exact HM5.out
            case measure => simp [intOf]; omega
          · obtain rfl : j = n := by omega
            have ht : xs.take j = xs := List.take_of_length_le (by rw [← HL.out]; exact Nat.le_refl _)
            rw [ht, ← HF.out] at HM
            have HSo := Lib.hid (show SortI fl by rw [HF.out]; exact foldDel_sorted _ _ (upI_sorted _))
            have HLe := Lib.hid (show fl.length ≤ 100000000 by
              rw [HF.out]
              have := foldDel_len xs (upI k)
              rw [upI_len] at this
              omega)
            clear ht
            go_wp2_with (go_at_call 75; refine (keys_calls wr b _ _ HSo.out HLe.out HM.out).mono ?_; rintro e w5 ⟨vf, rfl, e5, hcall⟩)
            refine hcall.mono ?_
            rintro e w6 ⟨v, rfl, hr6, e6⟩
            have HO := Lib.hid (own_lower hr6 e3.size)
            clear hr6 hcall
            go_wp2_with fail
            go_ret2
            exact ⟨v, rfl, fun _ => HO.out, e3.trans e6⟩
  · have HE := Lib.hid hE

    go_enter Tryz.func36, Tryz.ntmps36
    go_wp2_with (go_at_call 44; refine HC.out.mono ?_; rintro e w1 ⟨rfl, e1⟩)
    go_ret2
    exact ⟨_, rfl, fun h => absurd h HE.out, e1⟩
end Go.Proofs.YtfongpdeflfioaaGreat
