/- The texts Fr, Bput, Pcl, Raw, Psm, Stgd in one file. -/
import Derived.Test.YtmecjjmlccdppaaGreatDoorM16
import Derived.Test.YtmecjjmlccdppaaGreatDoorM17
import Derived.Test.YtmecjjmlccdppaaGreatDoorM7
import Derived.Test.YtmecjjmlccdppaaGreatDoorM1
import Derived.Test.YtmecjjmlccdppaaGreatDoorM15
import Derived.Test.YtmecjjmlccdppaaGreatDoorM5
import Derived.Test.YtmecjjmlccdppaaGreatDoorM12
/- blocks.Free: the walk. -/
namespace Go.Proofs.YtmecjjmlccdppaaGreatDoor
open Go.RowKit
set_option linter.unusedVariables false
set_option linter.unusedSimpArgs false

/-- a changed content is told, in memory that is not the caller's, and an error -/
def BkRd (w : World) (zs : List Blk) (E : Int) (e : Ending) (w' : World) : Prop :=
  ∃ (A : Option Addr) (c : Nat), e = .returned (.tuple #[.slice A zs.length c, .int .i64 E]) ∧ zs.length ≤ c ∧ c ≤ 9223372036854775807 ∧ Rd w' w.heap.size w'.heap.size A (blks zs) ∧ Ext w w'
theorem bkRd_nil {w w' : World} {zs : List Blk} {E E' : Int} (hz : zs = []) (hE : E = E') (e : Ext w w') : BkRd w zs E (.returned (.tuple #[.slice none 0 0, .int .i64 E'])) w' := by
  subst hz hE
  exact ⟨none, 0, rfl, Nat.le_refl _, by omega, fun h => absurd rfl h, e⟩

set_option maxRecDepth 100000 in
set_option maxHeartbeats 2000000 in
theorem free_any (w : World) (A : Option Addr) (n c : Nat) (xs : List Blk) (hn : n = xs.length) (hN : n ≤ 100000000000) (hr : Rd w 0 w.heap.size A (blks xs)) (hwf : ∀ x ∈ xs, x.wf) (i j : Int) (hi : -9223372036854775808 ≤ i ∧ i ≤ 9223372036854775807) (hj : -9223372036854775808 ≤ j ∧ j ≤ 9223372036854775807) :
    Calls Tryz.prog 38 #[.slice A n c, .int .i64 i, .int .i64 j] w (BkRd w (frd xs i j) (frE xs i j)) := by
  have hmf : ∀ (fn : Fn) (first cap : Array Value) (w : World), (Instr.makeFunc fn first cap).run Tryz.prog w = .ok (.func fn first cap) w := fun _ _ _ _ => rfl
  have Hn := Lib.hid hn
  have HR := Lib.hid hr
  have HC := Lib.hid (fun w1 (e1 : Ext w w1) => bcheck_any w1 A n c xs hn (by omega) (Rd.at hr e1 (Nat.le_refl _)) hwf)
  have HB := Lib.hid (bkE_cases xs)
  have HE := Lib.hid (show frE xs i j = if bkE xs ≠ 0 then 9 else if frBad i j then 4 else 0 from rfl)
  have HF := Lib.hid (show frd xs i j = if frE xs i j = 0 then xs.filter (stays i j) else [] from rfl)
  clear hn hr hwf
  go_enter Tryz.func38, Tryz.ntmps38
  go_wp2_with fail
  generalize hw1 : World.alloc (World.alloc w _) _ = w1
  have e1 : Ext w w1 := by rw [← hw1]; exact ((Ext.refl _).alloc _).alloc _
  have hp1 : w1.cell? ⟨w.heap.size, 0, none⟩ = some (.int .i64 i) := by rw [← hw1, World.cell?_alloc_lt _ _ _ (by simp)]; first | (go_simp; done) | simp [World.cell?]
  have hq1 : w1.cell? ⟨w.heap.size + 1, 0, none⟩ = some (.int .i64 j) := by subst hw1; go_simp
  have hz1 : w1.heap.size = w.heap.size + 2 := by rw [← hw1]; simp
  have Z1 := Lib.hid hz1
  clear hw1
  refine (HC.out w1 e1).mono ?_
  rintro e w2 ⟨rfl, e2⟩
  have hp : w2.cell? ⟨w.heap.size, 0, none⟩ = some (.int .i64 i) := (Below.cell e2 (by show w.heap.size < _; omega)).trans hp1
  have hq : w2.cell? ⟨w.heap.size + 1, 0, none⟩ = some (.int .i64 j) := (Below.cell e2 (by show w.heap.size + 1 < _; omega)).trans hq1
  have x2 : Ext w w2 := e1.trans e2
  have Z2 := Lib.hid (show w.heap.size + 2 ≤ w2.heap.size by have := e2.size; omega)
  clear hp1 hq1 hz1 e1 e2
  rcases HB.out with hb | hb
  · have HE1 := Lib.hid (show frE xs i j = if frBad i j then 4 else 0 by rw [HE.out, if_neg (by rw [hb]; decide)])
    rw [hb]
    by_cases q : frBad i j = true
    · have HE2 := Lib.hid (show frE xs i j = 4 by rw [HE1.out, if_pos q])
      have HF2 := Lib.hid (show frd xs i j = [] by rw [HF.out, HE2.out]; rfl)
      simp only [frBad, Bool.or_eq_true, decide_eq_true_eq] at q
      by_cases q1 : i < 0
      · clear q
        go_wp2_with fail
        go_ret2
        exact bkRd_nil HF2.out HE2.out x2
      · by_cases q2 : 1024 ≤ i
        · clear q
          go_wp2_with fail
          go_ret2
          exact bkRd_nil HF2.out HE2.out x2
        · by_cases q3 : j < 1
          · clear q
            go_wp2_with fail
            go_ret2
            exact bkRd_nil HF2.out HE2.out x2
          · have q4 : 1024 - i < j := by omega
            clear q
            go_wp2_with fail
            go_ret2
            exact bkRd_nil HF2.out HE2.out x2
    · have HE2 := Lib.hid (show frE xs i j = 0 by rw [HE1.out, if_neg q])
      have HF2 := Lib.hid (show frd xs i j = xs.filter (stays i j) by rw [HF.out, HE2.out]; rfl)
      simp only [frBad, Bool.or_eq_true, decide_eq_true_eq, not_or] at q
      obtain ⟨⟨⟨q1, q2⟩, q3⟩, q4⟩ := q
      have HI := Lib.hid (show (0 ≤ i ∧ i < 1024) ∧ (1 ≤ j ∧ j ≤ 1024 - i) by omega)
      go_wp2_with fail
      refine (bclone_any w2 A n c xs Hn.out (Rd.at HR.out x2 (Nat.le_refl _)) hN).mono ?_
      rintro e w3 ⟨v3, rfl, hown, e3⟩
      obtain ⟨A3, c3, rfl, k1, k2, _⟩ := own_form hown
      have HW := Lib.hid (Wr.of_own hown)
      have hp3 : w3.cell? ⟨w.heap.size, 0, none⟩ = some (.int .i64 i) := (Below.cell e3 (by show w.heap.size < _; have := Z2.out; omega)).trans hp
      have hq3 : w3.cell? ⟨w.heap.size + 1, 0, none⟩ = some (.int .i64 j) := (Below.cell e3 (by show w.heap.size + 1 < _; have := Z2.out; omega)).trans hq
      have HD := Lib.hid (bdel_any w3 A3 n c3 w2.heap.size w3.heap.size w.heap.size (w.heap.size + 1) i j xs Hn.out k1 (by simpa [maxLen] using k2) hN HW.out (Nat.le_refl _) e3.size (by have := Z2.out; omega) (by have := Z2.out; omega) hp3 hq3 HI.out.1 HI.out.2)
      have HX := Lib.hid (x2.trans e3)
      have HSz := Lib.hid e3.size
      clear hown hp hq hp3 hq3 k1 k2
      go_wp2_with fail
      refine HD.out.mono ?_
      rintro e w4 ⟨A4, c4, rfl, m1, m2, m3, e4⟩
      have HM := Lib.hid m3
      have HL := Lib.hid e4
      clear m3 e4
      generalize xs.filter (stays i j) = zs at *
      go_wp2_with fail
      go_ret2
      rw [HE2.out, HF2.out]
      exact ⟨A4, c4, rfl, m1, m2, HM.out.more x2.size (Nat.le_refl _), Below.trans HX.out (Below.mono HL.out x2.size)⟩
  · have HE2 := Lib.hid (show frE xs i j = 9 by rw [HE.out, if_pos (by rw [hb]; decide)])
    have HF2 := Lib.hid (show frd xs i j = [] by rw [HF.out, HE2.out]; rfl)
    rw [hb]
    go_wp2_with fail
    go_ret2
    exact bkRd_nil HF2.out HE2.out x2
end Go.Proofs.YtmecjjmlccdppaaGreatDoor
/- blocks.Put: the walk; the same answer as the reference's. -/
namespace Go.Proofs.YtmecjjmlccdppaaGreatDoor
open Go.RowKit
set_option linter.unusedVariables false
set_option linter.unusedSimpArgs false

theorem ins_new (w : World) (base : Nat) (v : Value) (n i : Nat) (xs : List Blk) (y : Blk) (hn : n = xs.length) (hN : n ≤ 100000000000) (hi : i ≤ n) (hown : w.ownsRow base 46 2 v n (blks xs)) (hb : base ≤ w.heap.size) :
    Calls Tryz.prog 75 #[v, .int .i64 i, .slice (some ⟨w.heap.size, 0, none⟩) 1 1] (w.alloc (.cells #[.int .i64 y.index, .string y.data] 46)) (InsOut (w.alloc (.cells #[.int .i64 y.index, .string y.data] 46)) base (insd xs i y)) := by
  have hown' := own_ext hown ((Ext.refl w).alloc (.cells #[.int .i64 y.index, .string y.data] 46))
  have hb' : base ≤ (w.alloc (.cells #[.int .i64 y.index, .string y.data] 46)).heap.size := by simp; omega
  have hcell : ∀ j u, (Blk.cells y)[j]? = some u → (w.alloc (.cells #[.int .i64 y.index, .string y.data] 46)).cell? ⟨w.heap.size, j, none⟩ = some u := fun j u hu => cell_new w _ _ j (by simpa [Blk.cells] using hu)
  rcases Nat.lt_or_ge i n with h | h
  · obtain ⟨A, c, rfl, hnc, hcm, hnil⟩ := own_form hown
    cases A with
    | none => have := hnil rfl; omega
    | some a =>
      obtain ⟨g, rfl⟩ : ∃ g, a = ⟨g, 0, none⟩ := by
        rcases hown.2 with ⟨hv, _⟩ | ⟨g, cap, cur, hv, _⟩
        · cases hv
        · simp only [Value.slice.injEq, Option.some.injEq] at hv
          exact ⟨g, hv.1⟩
      have hg := (hown.lt g rfl).2
      rcases Nat.lt_or_ge c (n + 1) with h' | h'
      · exact ins_grow _ base g n c i xs y hn hN h h' hown' hb' w.heap.size (by simp) hcell
      · exact ins_room _ base g n c i xs y hn hN h h' hown' hb' w.heap.size (by omega) (by simp) hcell 46 2 (by unfold World.shape?; rw [heap_alloc_new]; rfl) (frozen_new rfl 0 _ (Ext.refl _)) (frozen_new rfl 2 _ (Ext.refl _))
  · obtain rfl : i = n := by omega
    exact ins_end _ base v i xs y hn hN hown' hb' w.heap.size (fun _ => ⟨w.heap.size, 0, rfl, Nat.zero_le _, by simp, fun j u hu => by rw [Nat.zero_add]; exact hcell j u hu⟩)

theorem rises_of (xs : List Blk) (h : bkE xs = 0) : Rises xs := by
  have hb : bkUpto xs xs.length = false := by
    unfold bkE at h
    cases hq : bkUpto xs xs.length with
    | false => rfl
    | true => rw [hq] at h; cases h
  have step : ∀ k (hk : k + 1 < xs.length), xs[k].index < xs[k + 1].index := fun k hk => by
    have : bkBad xs (k + 1) = false := by
      cases hq : bkBad xs (k + 1) with
      | false => rfl
      | true => rw [bkUpto_at xs (k + 1) _ hk hq] at hb; cases hb
    rw [bkBad_at xs (k + 1) hk, Bool.or_eq_false_iff] at this
    have h2 := this.2
    rw [Nat.add_sub_cancel, ixAt_at xs k (by omega)] at h2
    simp at h2
    omega
  intro a b hab hbl
  induction b with
  | zero => omega
  | succ b ih =>
    rcases Nat.lt_or_ge a b with h' | h'
    · exact Int.lt_trans (ih h' (by omega)) (step b hbl)
    · obtain rfl : a = b := by omega
      exact step a hbl
theorem split_at {xs : List Blk} {t : Int} {p : Nat} (hp : p ≤ xs.length) (h1 : ∀ k (h : k < xs.length), k < p → xs[k].index < t) (h2 : ∀ k (h : k < xs.length), p ≤ k → t ≤ xs[k].index) :
    xs.takeWhile (ahead t) = xs.take p ∧ xs.dropWhile (ahead t) = xs.drop p := by
  refine while_at (ahead t) xs p (List.all_eq_true.2 fun x hx => ?_) fun h => ?_
  · obtain ⟨k, hk, rfl⟩ := List.getElem_of_mem hx
    rw [List.getElem_take]
    rw [List.length_take] at hk
    exact decide_eq_true (h1 k (by omega) (by omega))
  · have := h2 p h (Nat.le_refl _)
    exact decide_eq_false (by omega)
theorem blks_set (xs : List Blk) (p : Nat) (h : p < xs.length) (d : ByteArray) : (blks xs).set (p * 2 + 1) (.string d) = blks (xs.set p ⟨xs[p].index, d⟩) := by
  induction p generalizing xs with
  | zero =>
    cases xs with
    | nil => simp at h
    | cons x l => rfl
  | succ p ih =>
    cases xs with
    | nil => simp at h
    | cons x l =>
      have := ih l (by simpa using h)
      simp only [List.getElem_cons_succ, List.set_cons_succ]
      rw [show (p + 1) * 2 + 1 = (p * 2 + 1) + 1 + 1 by omega]
      show (.int .i64 x.index :: .string x.data :: blks l).set (p * 2 + 1 + 1 + 1) _ = _
      rw [List.set_cons_succ, List.set_cons_succ, this]
      rfl
theorem set_split (xs : List Blk) (p : Nat) (h : p < xs.length) (y : Blk) : xs.set p y = xs.take p ++ [y] ++ xs.drop (p + 1) := by
  rw [List.set_eq_take_append_cons_drop, if_pos h]; simp

set_option maxRecDepth 100000 in
set_option maxHeartbeats 4000000 in
theorem bput_any (w : World) (A : Option Addr) (n c : Nat) (xs : List Blk) (hn : n = xs.length) (hN : n ≤ 100000000000) (hr : Rd w 0 w.heap.size A (blks xs)) (hwf : ∀ x ∈ xs, x.wf) (i : Int) (d : ByteArray) (hd : d.size ≤ 9223372036854775807) (hi : -9223372036854775808 ≤ i ∧ i ≤ 9223372036854775807) :
    Calls Tryz.prog 37 #[.slice A n c, .int .i64 i, .string d] w (BkRd w (ptd xs i d) (ptE xs i d)) := by
  obtain ⟨i0, hi0, hz0, hz1, hz2⟩ := info_parts infoB
  have Hn := Lib.hid hn
  have HR := Lib.hid hr
  have HC := Lib.hid (bcheck_any w A n c xs hn (by omega) hr hwf)
  have HB := Lib.hid (bkE_cases xs)
  have HE := Lib.hid (show ptE xs i d = if bkE xs ≠ 0 then 9 else if ptBad i d then 4 else if d.size ≠ 16 then 5 else 0 from rfl)
  have HF := Lib.hid (show ptd xs i d = if ptE xs i d = 0 then xs.takeWhile (ahead i) ++ [⟨i, d⟩] ++ less i (xs.dropWhile (ahead i)) else [] from rfl)
  clear hn hr hwf
  go_enter Tryz.func37, Tryz.ntmps37
  go_wp2_with fail
  refine HC.out.mono ?_
  rintro e w2 ⟨rfl, e2⟩
  rcases HB.out with hb | hb
  · have HE1 := Lib.hid (show ptE xs i d = if ptBad i d then 4 else if d.size ≠ 16 then 5 else 0 by rw [HE.out, if_neg (by rw [hb]; decide)])
    have HRs := Lib.hid (rises_of xs hb)
    rw [hb]
    by_cases q : ptBad i d = true
    · have HE2 := Lib.hid (show ptE xs i d = 4 by rw [HE1.out, if_pos q])
      have HF2 := Lib.hid (show ptd xs i d = [] by rw [HF.out, HE2.out]; rfl)
      simp only [ptBad, Bool.or_eq_true, decide_eq_true_eq] at q
      by_cases q1 : i < 0
      · clear q
        go_wp2_with fail
        go_ret2
        exact bkRd_nil HF2.out HE2.out e2
      · have q2 : 1024 ≤ i := by omega
        clear q
        go_wp2_with fail
        go_ret2
        exact bkRd_nil HF2.out HE2.out e2
    · by_cases q3 : d.size = 16
      · have HE2 := Lib.hid (show ptE xs i d = 0 by rw [HE1.out, if_neg q, if_neg (by simp [q3])])
        simp only [ptBad, Bool.or_eq_true, decide_eq_true_eq, not_or] at q
        obtain ⟨q1, q2⟩ := q
        have q3' : ((d.size : Int) != 16) = false := by simp [q3]
        clear q3
        go_wp2_with fail
        refine (bs_any w2 A n c xs Hn.out hN (Rd.at HR.out e2 (Nat.le_refl _)) HRs.out i).mono ?_
        rintro e w3 ⟨p, rfl, hp, hlo, hhi, e3⟩
        have HSp := Lib.hid (split_at hp hlo hhi)
        have HP := Lib.hid hp
        have x3 : Ext w w3 := e2.trans e3
        clear hp hlo hhi
        go_wp2_with fail
        refine (bclone_any w3 A n c xs Hn.out (Rd.at HR.out x3 (Nat.le_refl _)) hN).mono ?_
        rintro e w4 ⟨v4, rfl, hown, e4⟩
        have HOwn := Lib.hid hown
        have x4 : Ext w w4 := x3.trans e4
        by_cases hp2 : p < xs.length
        · by_cases hx : xs[p].index = i
          · have HF2 := Lib.hid (show ptd xs i d = xs.set p ⟨xs[p].index, d⟩ by rw [HF.out, HE2.out, if_pos rfl, HSp.out.1, HSp.out.2, less_hit i xs p hp2 hx, set_split xs p hp2, hx])
            have His := Lib.hid (show isAt xs p i = true by rw [isAt, List.getElem?_eq_getElem hp2]; exact decide_eq_true hx)
            rw [His.out]
            obtain ⟨A4, c4, rfl, k1, k2, k3⟩ := own_form hown
            obtain ⟨g, rfl⟩ : ∃ g, A4 = some ⟨g, 0, none⟩ := by
              rcases hown.2 with ⟨hv, h0⟩ | ⟨g, cap, cur, hv, _⟩
              · simp only [Value.slice.injEq] at hv; have := Hn.out; omega
              · simp only [Value.slice.injEq, Option.some.injEq] at hv
                exact ⟨g, hv.1⟩
            obtain ⟨hbg, _, _, _, hcells, hfz, hcs⟩ := sliceD hown
            obtain ⟨b, o, he, _, _, _, hc1⟩ := rd_blk (Rd.of_own hown) hp2
            simp only [Option.some.injEq, Addr.mk.injEq, and_true] at he
            obtain ⟨rfl, rfl⟩ := he
            rw [Nat.zero_add] at hc1
            have hf1 := hfz (p * 2 + 1)
            have hpn : (p : Int) < n := by have := Hn.out; omega
            have hst := hown.stored (p * 2 + 1) (.string d)
            rw [blks_set xs p hp2] at hst
            have HSt := Lib.hid hst
            clear hown hcells hfz hcs hst hx
            go_wp2_with fail
            go_ret2
            rw [HE2.out, HF2.out]
            have hl : (xs.set p ⟨xs[p].index, d⟩).length = n := by rw [List.length_set, ← Hn.out]
            refine ⟨some ⟨g, 0, none⟩, c4, by rw [hl]; rfl, by rw [hl]; exact k1, by simpa [maxLen] using k2, ?_, x4.setCell (by have := x3.size; show w.heap.size ≤ g; omega) _⟩
            have := Rd.of_own HSt.out.1
            exact this.more x3.size (Nat.le_refl _)
          · have HF2 := Lib.hid (show ptd xs i d = insd xs p ⟨i, d⟩ by rw [HF.out, HE2.out, if_pos rfl, HSp.out.1, HSp.out.2, less_miss i xs p hp2 hx, insd])
            have His := Lib.hid (show isAt xs p i = false by rw [isAt, List.getElem?_eq_getElem hp2]; exact decide_eq_false hx)
            rw [His.out]
            clear hx hp2 hown
            go_wp2_with fail; refine (ins_new w4 w3.heap.size v4 n p xs ⟨i, d⟩ Hn.out hN (by have := HP.out; have := Hn.out; omega) HOwn.out e4.size).mono ?_; rintro e w5 ⟨A5, c5, rfl, m1, m2, m3, m4⟩; have HM := Lib.hid m3; have HL := Lib.hid m4; clear m3 m4; have HZ := Lib.hid HF2.out.symm; generalize hzs : insd xs p ⟨i, d⟩ = zs at *; have HZS := Lib.hid hzs; clear hzs; go_wp2_with fail; go_ret2; rw [HE2.out, HF2.out]; exact ⟨A5, c5, rfl, m1, m2, HM.out.more x3.size (Nat.le_refl _), Below.trans (x4.alloc _) (Below.mono HL.out x3.size)⟩
        · have hpe : p = xs.length := by have := HP.out; omega
          have HF2 := Lib.hid (show ptd xs i d = insd xs p ⟨i, d⟩ by rw [HF.out, HE2.out, if_pos rfl, HSp.out.1, HSp.out.2, less_end i xs p (by omega), insd])
          have His := Lib.hid (show isAt xs p i = false by rw [isAt, List.getElem?_eq_none (by omega)])
          rw [His.out]
          clear hpe hp2 hown
          go_wp2_with fail; refine (ins_new w4 w3.heap.size v4 n p xs ⟨i, d⟩ Hn.out hN (by have := HP.out; have := Hn.out; omega) HOwn.out e4.size).mono ?_; rintro e w5 ⟨A5, c5, rfl, m1, m2, m3, m4⟩; have HM := Lib.hid m3; have HL := Lib.hid m4; clear m3 m4; have HZ := Lib.hid HF2.out.symm; generalize hzs : insd xs p ⟨i, d⟩ = zs at *; have HZS := Lib.hid hzs; clear hzs; go_wp2_with fail; go_ret2; rw [HE2.out, HF2.out]; exact ⟨A5, c5, rfl, m1, m2, HM.out.more x3.size (Nat.le_refl _), Below.trans (x4.alloc _) (Below.mono HL.out x3.size)⟩
      · have HE2 := Lib.hid (show ptE xs i d = 5 by rw [HE1.out, if_neg q, if_pos q3])
        have HF2 := Lib.hid (show ptd xs i d = [] by rw [HF.out, HE2.out]; rfl)
        have q3' : ((d.size : Int) != 16) = true := by simp; omega
        simp only [ptBad, Bool.or_eq_true, decide_eq_true_eq, not_or] at q
        obtain ⟨q1, q2⟩ := q
        clear q3
        go_wp2_with fail
        go_ret2
        exact bkRd_nil HF2.out HE2.out e2
  · have HE2 := Lib.hid (show ptE xs i d = 9 by rw [HE.out, if_pos (by rw [hb]; decide)])
    have HF2 := Lib.hid (show ptd xs i d = [] by rw [HF.out, HE2.out]; rfl)
    rw [hb]
    go_wp2_with fail
    go_ret2
    exact bkRd_nil HF2.out HE2.out e2
end Go.Proofs.YtmecjjmlccdppaaGreatDoor
/- slices.Clone over properties. -/
namespace Go.Proofs.YtmecjjmlccdppaaGreatDoor
open Go.RowKit
set_option linter.unusedVariables false
set_option linter.unusedSimpArgs false

theorem infoP : (Tryz.prog.info? 79).map (fun i => (i.zero, i.size, i.bytes)) = some (some (.agg #[.string .empty, .string .empty]), 2, 32) := by kernel_rfl
theorem prps_one (xs : List Prp) : ∀ u ∈ prps xs, u.oneCell' = true := by
  intro u hu
  obtain ⟨x, _, hx⟩ := List.mem_flatMap.1 hu
  simp only [Prp.cells, List.mem_cons, List.not_mem_nil, or_false] at hx
  rcases hx with rfl | rfl <;> rfl
set_option maxHeartbeats 400000 in
theorem pclone_any (w : World) (A : Option Addr) (n c : Nat) (xs : List Prp) (hn : n = xs.length) (hr : Rd w 0 w.heap.size A (prps xs)) (hb : n ≤ 100000000000) :
    Calls Tryz.prog 31 #[.slice A n c] w fun e w' => ∃ v, e = .returned v ∧ w'.ownsRow w.heap.size 79 2 v n (prps xs) ∧ Ext w w' := by
  have qT : ∀ (w : World) (a : Option Addr) (n c n' c' : Nat), (binOp .eql 22 (.slice a n c) (.slice none n' c')).run Tryz.prog w = .ok (.bool a.isNone) w := fun w a n c n' c' => Lib.run_eql_slice_nil w _ _ a n c n' c' Tryz.underlying22
  obtain ⟨i0, hi0, hz0, hz1, hz2⟩ := info_parts infoP
  have hmx : n ≤ maxLen := by simp only [maxLen]; omega
  have hl : (prps xs).length = n * 2 := by rw [prps_length, hn]
  have Hn := Lib.hid hn
  clear hn
  cases A with
  | none =>
    have : n = 0 := by
      rcases Nat.eq_zero_or_pos n with h | h
      · exact h
      · obtain ⟨b, o, hh, _⟩ := hr (fun e => by rw [e] at hl; simp at hl; omega)
        cases hh
    subst this
    have : prps xs = [] := List.eq_nil_of_length_eq_zero (by simpa using hl)
    rw [this]
    clear hl
    go_enter Tryz.func31, Tryz.ntmps31
    go_wp2
    go_ret
    exact ⟨_, rfl, World.ownsRow_nil _ _ _ _, Ext.refl _⟩
  | some ad =>
    go_enter Tryz.func31, Tryz.ntmps31
    go_wp2_with
      (at_builtin
       refine list_app _ rfl (.tmp 5) (.tmp 6) _ rfl 79 i0 _ 2 32 Tryz.underlying22 hi0 hz0 hz1 hz2 rfl (by omega) w.heap.size (.slice (some ⟨w.heap.size, 0, none⟩) 0 0) 0 [] rfl
         (World.ownsRow_lit w #[] 0 (Nat.le_refl _) (Nat.zero_le _) rfl) 0 w.heap.size (some ad) n c (prps xs) rfl hl (hr.alloc (Nat.le_refl _) _) (prps_one _) (by simpa using hmx) (by omega) (by simp) ?_
       intro v1 w1 hown1 he1 _ hg1)
    go_ret
    refine ⟨v1, rfl, by simpa using hown1, below_grown ((Below.refl _ _).alloc (Nat.le_refl _) _) hg1 (by simp) (.inr ⟨_, rfl, Nat.le_refl _⟩)⟩

end Go.Proofs.YtmecjjmlccdppaaGreatDoor
/- (*fed).raw: a record's octets, counted and summed. -/
namespace Go.Proofs.YtmecjjmlccdppaaGreatDoor
open Go.RowKit
set_option linter.unusedVariables false
set_option linter.unusedSimpArgs false

set_option maxRecDepth 100000 in
set_option maxHeartbeats 8000000 in
theorem raw_any {w0 : World} {its : List It} (w : World) (H : Heap w0 its w) (b i : Nat) (y : Stg) (hi : its[i]? = some (.box b y.cells)) (hy1 : 0 ≤ y.pos) (hy2 : y.pos ≤ 1099511627776)
    (x : Rec) (hr : Rd w 0 w.heap.size x.oA (prps x.own)) (hx : x.wf) (hon : x.on ≤ 100000000) (hs : (sumR x).wf) :
    Calls Tryz.prog 30 #[.pointer (some ⟨b, 0, none⟩), .agg x.cells.toArray] w
      fun e w' => e = .returned (.tuple #[]) ∧ Heap w0 (its.set i (.box b ({ y with pos := y.pos + ((encB x).length : Int), su := feed y.su (encB x) } : Stg).cells)) w' := by
  have HEn := Lib.hid (fun W (hW : Ext w W) => encode_any W x (Rd.at hr hW (Nat.le_refl _)) hx hon hs)
  have hlen := encB_len x
  have HEx := Lib.hid (fun W e w' (h : EncOk x W e w') => show ∃ v E, e = .returned (.tuple #[v, .int .i64 E]) ∧ w'.ownsRow W.heap.size 5 1 v (encB x).length (bytes (encB x)) ∧ Ext W w' from by
    obtain ⟨v, h1, h2⟩ := h
    exact ⟨v, _, h1, h2⟩)
  generalize EncOk x = EO at *
  generalize encB x = B at *
  clear hr hx hon hs
  obtain ⟨kind, name, frm, guid, oA, on, oc, own, index, count, data, s0, s1, s2, s3⟩ := x
  obtain ⟨into, ⟨kind', name', frm', guid', oA', on', oc', own', index', count', data', t0, t1, t2, t3⟩, bA, bn, bc, body, pos, next, ⟨ua, ub, uc, ud⟩, dn⟩ := y
  dsimp only at hy1 hy2
  simp only [Rec.cells] at HEn
  simp only [Stg.cells, Rec.cells, Su.cells, List.cons_append, List.nil_append] at hi ⊢
  have HI := Lib.hid hi
  have HIn := Lib.hid H
  clear hi H
  obtain ⟨m, hm⟩ : ∃ m, m = B.length := ⟨_, rfl⟩
  rw [← hm] at hlen HEx ⊢
  have HM := Lib.hid hm
  clear hm
  go_enter Tryz.func30, Tryz.ntmps30
  go_upto_region 1 with fail
  generalize hwA : World.alloc w _ = w1
  have e1 : Ext w w1 := by rw [← hwA]; exact (Ext.refl w).alloc _
  have HH := Lib.hid (HIn.out.allocE hwA)
  clear hwA
  go_wp2_with (refine shl_load HH.out sizeRec (by kernel_rfl) rfl rfl rfl 0 rfl rfl ?_)
  refine (HEn.out w1 e1).mono ?_
  intro e w2 hEO
  obtain ⟨v2, E2, rfl, hown2, e2⟩ := HEx.out _ _ _ hEO
  obtain ⟨A2, c2, rfl, k1, k2, _⟩ := own_form hown2
  simp only [maxLen] at k2
  have HH2 := Lib.hid (HH.out.addRow e2 hown2)
  clear HH hown2 e2 hEO
  have HH := HH2
  clear HH2
  go_upto_region 3 with (first | (refine shl_load1 HH.out rfl rfl rfl (i + 2) (at2 HI.out) rfl (by decide +kernel) ?_) | (refine shl_store1 HH.out rfl rfl rfl rfl (i + 2) (at2 HI.out) rfl rfl (by kernel_rfl) ?_; clear HH; intro wS HHS; have HH := Lib.hid HHS; clear HHS))
  have HH2 := Lib.hid (show Heap w0 (_ :: _ :: its.set i (.box b [.string into, .int .i64 kind', .string name', .int .i64 frm', .int .i64 guid', .slice oA' on' oc', .int .i64 index', .int .i64 count', .string data', .int .u64 t0, .int .u64 t1, .int .u64 t2, .int .u64 t3, .slice bA bn bc, .int .i64 (pos + m), .int .i64 next, .int .u64 ua, .int .u64 ub, .int .u64 uc, .int .u64 ud, .bool dn])) wS from set2 HH.out)
  have HI2 := Lib.hid (at_set (z := .box b [.string into, .int .i64 kind', .string name', .int .i64 frm', .int .i64 guid', .slice oA' on' oc', .int .i64 index', .int .i64 count', .string data', .int .u64 t0, .int .u64 t1, .int .u64 t2, .int .u64 t3, .slice bA bn bc, .int .i64 (pos + m), .int .i64 next, .int .u64 ua, .int .u64 ub, .int .u64 uc, .int .u64 ud, .bool dn]) HI.out)
  clear HH HI
  have HH := HH2
  clear HH2
  go_wp2_with (refine shl_load HH.out sizeSu (by kernel_rfl) rfl rfl rfl (i + 2) (at2 HI2.out) rfl ?_)
  refine (ffeed_any wS ⟨ua, ub, uc, ud⟩ A2 m c2 B HM.out ((Rd.of_own (HH.out.rowAt 0 rfl)).more (Nat.zero_le _) (Nat.le_refl _)) k1 (by omega)).mono ?_
  rintro e w4 ⟨rfl, e4⟩
  have HH4 := Lib.hid (HH.out.later e4)
  clear HH e4
  have HH := HH4
  clear HH4
  simp only [Su.cells]
  go_wp2_with (refine shl_store HH.out sizeSu rfl rfl rfl rfl (i + 2) (at2 HI2.out) rfl rfl rfl ?_; clear HH; intro wS HHS; have HH := Lib.hid HHS; clear HHS)
  go_end0
  refine ⟨rfl, ?_⟩
  have h9 := (set2 HH.out).tail.tail
  rw [set_set] at h9
  exact h9
end Go.Proofs.YtmecjjmlccdppaaGreatDoor
/- The reference's SameProps: the walk. -/
namespace Go.Proofs.YtmecjjmlccdppaaGreatDoor
open Go.RowKit
set_option linter.unusedVariables false
set_option linter.unusedSimpArgs false

instance : DecidableEq Prp := fun a b => decidable_of_iff (a.name = b.name ∧ a.value = b.value) (by cases a; cases b; simp)
theorem ptake_eq_succ {xs ys : List Prp} {k : Nat} (h1 : k < xs.length) (h2 : k < ys.length) (h : xs.take k = ys.take k) (he : xs[k] = ys[k]) : xs.take (k + 1) = ys.take (k + 1) := by
  rw [List.take_succ_eq_append_getElem h1, List.take_succ_eq_append_getElem h2, h, he]
theorem pne_at {xs ys : List Prp} {k : Nat} (h1 : k < xs.length) (h2 : k < ys.length) (hn : xs[k] ≠ ys[k]) : xs ≠ ys := fun e => by
  subst e
  exact hn rfl

set_option maxRecDepth 100000 in
set_option maxHeartbeats 2000000 in
theorem rpsame_any (w : World) (A B : Option Addr) (n m c d : Nat) (xs ys : List Prp) (hn : n = xs.length) (hm : m = ys.length) (hN : n ≤ 9223372036854775807) (hM : m ≤ 9223372036854775807) (hr : Rd w 0 w.heap.size A (prps xs)) (hs : Rd w 0 w.heap.size B (prps ys)) :
    Calls Tryz.prog 24 #[.slice A n c, .slice B m d] w fun e w' => e = .returned (.bool (decide (xs = ys))) ∧ Ext w w' := by
  have Hn := Lib.hid hn
  have Hm := Lib.hid hm
  have HR := Lib.hid hr
  have HS := Lib.hid hs
  by_cases hne : n = m
  · subst hne
    clear hn hm hr hs
    go_enter Tryz.func24, Tryz.ntmps24
    go_wp2_with fail
    go_loopw [5] (fun i wr => ∃ k : Nat, k ≤ n ∧ i = .int .i64 k ∧ Hid (xs.take k = ys.take k) ∧ Ext w wr) (fun i _ => n - (intOf i).toNat)
    case atStart => exact ⟨0, Nat.zero_le _, rfl, by rw [Hid]; rfl, Ext.refl _⟩
    case round =>
      obtain ⟨k, hk, rfl, HK, e1⟩ := hrel
      by_cases hlt : k < n
      · have l1 : k < xs.length := by rw [← Hn.out]; exact hlt
        have l2 : k < ys.length := by rw [← Hm.out]; exact hlt
        obtain ⟨b1, o1, rfl, _, _, f0, f1⟩ := rd_prp (HR.out.ext e1 (Nat.le_refl _)) l1
        obtain ⟨b2, o2, rfl, _, _, g0, g1⟩ := rd_prp (HS.out.ext e1 (Nat.le_refl _)) l2
        have HT := Lib.hid (ptake_eq_succ l1 l2 HK.out)
        have HN := Lib.hid (pne_at l1 l2)
        generalize xs[k] = x at *
        generalize ys[k] = y at *
        obtain ⟨xi, xd⟩ := x
        obtain ⟨yi, yd⟩ := y
        by_cases h1 : xi = yi
        · subst h1
          have c1 := toList_self xi
          by_cases h2 : xd = yd
          · subst h2
            have c2 := toList_self xd
            have HT2 := Lib.hid (HT.out rfl)
            go_wp2_with fail
            refine wp_region_held_drew (S := fun w' => w' = wr.drew) (by kernel_rfl) rfl (fun hHeld => ?_)
            refine takeL 0 (v := ?_) rfl (by kernel_rfl) (by kernel_rfl) (by kernel_rfl) (fun _ _ _ h => h) (by kernel_rfl) ?_ (by assumption) ?_; rotate_left; (focus (intro w hSw; (try dsimp only at hSw); go_simp <;> with_reducible rfl)); (try simp only [Act.put, List.setIfInBounds_toArray, List.set_cons_zero, List.set_cons_succ])
            refine takeL 1 (v := ?_) rfl (by kernel_rfl) (by kernel_rfl) (by kernel_rfl) (fun _ _ _ h => h) (by kernel_rfl) ?_ (by assumption) ?_; rotate_left; (focus (intro w hSw; (try dsimp only at hSw); go_simp <;> with_reducible rfl)); (try simp only [Act.put, List.setIfInBounds_toArray, List.set_cons_zero, List.set_cons_succ])
            refine takeL 2 (v := ?_) rfl (by kernel_rfl) (by kernel_rfl) (by kernel_rfl) (fun _ _ _ h => h) (by kernel_rfl) ?_ (by assumption) ?_; rotate_left; (focus (intro w hSw; (try dsimp only at hSw); go_simp <;> with_reducible rfl)); (try simp only [Act.put, List.setIfInBounds_toArray, List.set_cons_zero, List.set_cons_succ])
            refine takeL 3 (v := ?_) rfl (by kernel_rfl) (by kernel_rfl) (by kernel_rfl) (fun _ _ _ h => h) (by kernel_rfl) ?_ (by assumption) ?_; rotate_left; (focus (intro w hSw; (try dsimp only at hSw); go_simp <;> with_reducible rfl)); (try simp only [Act.put, List.setIfInBounds_toArray, List.set_cons_zero, List.set_cons_succ])
            refine takeL 4 (v := ?_) rfl (by kernel_rfl) (by kernel_rfl) (by kernel_rfl) (fun _ _ _ h => h) (by kernel_rfl) ?_ (by assumption) ?_; rotate_left; (focus (intro w hSw; (try dsimp only at hSw); go_simp <;> with_reducible rfl)); (try simp only [Act.put, List.setIfInBounds_toArray, List.set_cons_zero, List.set_cons_succ])
            refine takeL 5 (v := ?_) rfl (by kernel_rfl) (by kernel_rfl) (by kernel_rfl) (fun _ _ _ h => h) (by kernel_rfl) ?_ (by assumption) ?_; rotate_left; (focus (intro w hSw; (try dsimp only at hSw); go_simp <;> with_reducible rfl)); (try simp only [Act.put, List.setIfInBounds_toArray, List.set_cons_zero, List.set_cons_succ])
            refine takeL 6 (v := ?_) rfl (by kernel_rfl) (by kernel_rfl) (by kernel_rfl) (fun _ _ _ h => h) (by kernel_rfl) ?_ (by assumption) ?_; rotate_left; (focus (intro w hSw; (try dsimp only at hSw); go_simp <;> with_reducible rfl)); (try simp only [Act.put, List.setIfInBounds_toArray, List.set_cons_zero, List.set_cons_succ])
            refine takeL 7 (v := ?_) rfl (by kernel_rfl) (by kernel_rfl) (by kernel_rfl) (fun _ _ _ h => h) (by kernel_rfl) ?_ (by assumption) ?_; rotate_left; (focus (intro w hSw; (try dsimp only at hSw); go_simp <;> with_reducible rfl)); (try simp only [Act.put, List.setIfInBounds_toArray, List.set_cons_zero, List.set_cons_succ])
            refine takeL 8 (v := ?_) rfl (by kernel_rfl) (by kernel_rfl) (by kernel_rfl) (fun _ _ _ h => h) (by kernel_rfl) ?_ (by assumption) ?_; rotate_left; (focus (intro w hSw; (try dsimp only at hSw); go_simp <;> with_reducible rfl)); (try simp only [Act.put, List.setIfInBounds_toArray, List.set_cons_zero, List.set_cons_succ])
            refine wpAnyH_done (by kernel_rfl) ?_ _
            go_wp2_with fail
            go_roundw
            case rel => exact ⟨k + 1, by omega, by go_num, HT2, by (repeat (first | exact Below.refl _ _ | exact Ext.refl _ | assumption | refine Below.drew ?_ | refine below_drewN ?_ _ | refine below_alloc ?_ (by first | exact Nat.le_refl _ | assumption | (simp; done) | omega | (simp; omega)) _ | refine below_ext ?_ (by assumption) (by first | exact Nat.le_refl _ | assumption | (simp; done) | omega | (simp; omega)) | refine Ext.drew ?_ | refine Ext.drewN ?_ _ | refine Ext.alloc ?_ _ | refine Ext.setCell ?_ (by first | assumption | (simp; done) | (simp; omega)) _ | refine Below.setCell ?_ (by first | assumption | (simp; done) | (simp; omega)) _ | refine Ext.trans ?_ (by assumption)))⟩
            case measure => simp [intOf]; omega
          · have c2 := toList_ne h2
            have HF := Lib.hid (HN.out (by simp [h2]))
            clear h2
            go_wp2_with fail
            refine wp_region_held_drew (S := fun w' => w' = wr.drew) (by kernel_rfl) rfl (fun hHeld => ?_)
            refine takeL 0 (v := ?_) rfl (by kernel_rfl) (by kernel_rfl) (by kernel_rfl) (fun _ _ _ h => h) (by kernel_rfl) ?_ (by assumption) ?_; rotate_left; (focus (intro w hSw; (try dsimp only at hSw); go_simp <;> with_reducible rfl)); (try simp only [Act.put, List.setIfInBounds_toArray, List.set_cons_zero, List.set_cons_succ])
            refine takeL 1 (v := ?_) rfl (by kernel_rfl) (by kernel_rfl) (by kernel_rfl) (fun _ _ _ h => h) (by kernel_rfl) ?_ (by assumption) ?_; rotate_left; (focus (intro w hSw; (try dsimp only at hSw); go_simp <;> with_reducible rfl)); (try simp only [Act.put, List.setIfInBounds_toArray, List.set_cons_zero, List.set_cons_succ])
            refine takeL 2 (v := ?_) rfl (by kernel_rfl) (by kernel_rfl) (by kernel_rfl) (fun _ _ _ h => h) (by kernel_rfl) ?_ (by assumption) ?_; rotate_left; (focus (intro w hSw; (try dsimp only at hSw); go_simp <;> with_reducible rfl)); (try simp only [Act.put, List.setIfInBounds_toArray, List.set_cons_zero, List.set_cons_succ])
            refine takeL 3 (v := ?_) rfl (by kernel_rfl) (by kernel_rfl) (by kernel_rfl) (fun _ _ _ h => h) (by kernel_rfl) ?_ (by assumption) ?_; rotate_left; (focus (intro w hSw; (try dsimp only at hSw); go_simp <;> with_reducible rfl)); (try simp only [Act.put, List.setIfInBounds_toArray, List.set_cons_zero, List.set_cons_succ])
            refine takeL 4 (v := ?_) rfl (by kernel_rfl) (by kernel_rfl) (by kernel_rfl) (fun _ _ _ h => h) (by kernel_rfl) ?_ (by assumption) ?_; rotate_left; (focus (intro w hSw; (try dsimp only at hSw); go_simp <;> with_reducible rfl)); (try simp only [Act.put, List.setIfInBounds_toArray, List.set_cons_zero, List.set_cons_succ])
            refine takeL 5 (v := ?_) rfl (by kernel_rfl) (by kernel_rfl) (by kernel_rfl) (fun _ _ _ h => h) (by kernel_rfl) ?_ (by assumption) ?_; rotate_left; (focus (intro w hSw; (try dsimp only at hSw); go_simp <;> with_reducible rfl)); (try simp only [Act.put, List.setIfInBounds_toArray, List.set_cons_zero, List.set_cons_succ])
            refine takeL 6 (v := ?_) rfl (by kernel_rfl) (by kernel_rfl) (by kernel_rfl) (fun _ _ _ h => h) (by kernel_rfl) ?_ (by assumption) ?_; rotate_left; (focus (intro w hSw; (try dsimp only at hSw); go_simp <;> with_reducible rfl)); (try simp only [Act.put, List.setIfInBounds_toArray, List.set_cons_zero, List.set_cons_succ])
            refine takeL 7 (v := ?_) rfl (by kernel_rfl) (by kernel_rfl) (by kernel_rfl) (fun _ _ _ h => h) (by kernel_rfl) ?_ (by assumption) ?_; rotate_left; (focus (intro w hSw; (try dsimp only at hSw); go_simp <;> with_reducible rfl)); (try simp only [Act.put, List.setIfInBounds_toArray, List.set_cons_zero, List.set_cons_succ])
            refine takeL 8 (v := ?_) rfl (by kernel_rfl) (by kernel_rfl) (by kernel_rfl) (fun _ _ _ h => h) (by kernel_rfl) ?_ (by assumption) ?_; rotate_left; (focus (intro w hSw; (try dsimp only at hSw); go_simp <;> with_reducible rfl)); (try simp only [Act.put, List.setIfInBounds_toArray, List.set_cons_zero, List.set_cons_succ])
            refine wpAnyH_done (by kernel_rfl) ?_ _
            go_wp2_with fail
            go_ret
            exact ⟨by rw [decide_eq_false HF.out]; rfl, by (repeat (first | exact Below.refl _ _ | exact Ext.refl _ | assumption | refine Below.drew ?_ | refine below_drewN ?_ _ | refine below_alloc ?_ (by first | exact Nat.le_refl _ | assumption | (simp; done) | omega | (simp; omega)) _ | refine below_ext ?_ (by assumption) (by first | exact Nat.le_refl _ | assumption | (simp; done) | omega | (simp; omega)) | refine Ext.drew ?_ | refine Ext.drewN ?_ _ | refine Ext.alloc ?_ _ | refine Ext.setCell ?_ (by first | assumption | (simp; done) | (simp; omega)) _ | refine Below.setCell ?_ (by first | assumption | (simp; done) | (simp; omega)) _ | refine Ext.trans ?_ (by assumption)))⟩
        · have c1 := toList_ne h1
          have HF := Lib.hid (HN.out (by simp [h1]))
          clear h1
          go_wp2_with fail
          refine wp_region_held_drew (S := fun w' => w' = wr.drew) (by kernel_rfl) rfl (fun hHeld => ?_)
          refine takeL 0 (v := ?_) rfl (by kernel_rfl) (by kernel_rfl) (by kernel_rfl) (fun _ _ _ h => h) (by kernel_rfl) ?_ (by assumption) ?_; rotate_left; (focus (intro w hSw; (try dsimp only at hSw); go_simp <;> with_reducible rfl)); (try simp only [Act.put, List.setIfInBounds_toArray, List.set_cons_zero, List.set_cons_succ])
          refine takeL 1 (v := ?_) rfl (by kernel_rfl) (by kernel_rfl) (by kernel_rfl) (fun _ _ _ h => h) (by kernel_rfl) ?_ (by assumption) ?_; rotate_left; (focus (intro w hSw; (try dsimp only at hSw); go_simp <;> with_reducible rfl)); (try simp only [Act.put, List.setIfInBounds_toArray, List.set_cons_zero, List.set_cons_succ])
          refine takeL 2 (v := ?_) rfl (by kernel_rfl) (by kernel_rfl) (by kernel_rfl) (fun _ _ _ h => h) (by kernel_rfl) ?_ (by assumption) ?_; rotate_left; (focus (intro w hSw; (try dsimp only at hSw); go_simp <;> with_reducible rfl)); (try simp only [Act.put, List.setIfInBounds_toArray, List.set_cons_zero, List.set_cons_succ])
          refine takeL 3 (v := ?_) rfl (by kernel_rfl) (by kernel_rfl) (by kernel_rfl) (fun _ _ _ h => h) (by kernel_rfl) ?_ (by assumption) ?_; rotate_left; (focus (intro w hSw; (try dsimp only at hSw); go_simp <;> with_reducible rfl)); (try simp only [Act.put, List.setIfInBounds_toArray, List.set_cons_zero, List.set_cons_succ])
          refine takeL 4 (v := ?_) rfl (by kernel_rfl) (by kernel_rfl) (by kernel_rfl) (fun _ _ _ h => h) (by kernel_rfl) ?_ (by assumption) ?_; rotate_left; (focus (intro w hSw; (try dsimp only at hSw); go_simp <;> with_reducible rfl)); (try simp only [Act.put, List.setIfInBounds_toArray, List.set_cons_zero, List.set_cons_succ])
          refine takeL 5 (v := ?_) rfl (by kernel_rfl) (by kernel_rfl) (by kernel_rfl) (fun _ _ _ h => h) (by kernel_rfl) ?_ (by assumption) ?_; rotate_left; (focus (intro w hSw; (try dsimp only at hSw); go_simp <;> with_reducible rfl)); (try simp only [Act.put, List.setIfInBounds_toArray, List.set_cons_zero, List.set_cons_succ])
          refine takeL 6 (v := ?_) rfl (by kernel_rfl) (by kernel_rfl) (by kernel_rfl) (fun _ _ _ h => h) (by kernel_rfl) ?_ (by assumption) ?_; rotate_left; (focus (intro w hSw; (try dsimp only at hSw); go_simp <;> with_reducible rfl)); (try simp only [Act.put, List.setIfInBounds_toArray, List.set_cons_zero, List.set_cons_succ])
          refine takeL 7 (v := ?_) rfl (by kernel_rfl) (by kernel_rfl) (by kernel_rfl) (fun _ _ _ h => h) (by kernel_rfl) ?_ (by assumption) ?_; rotate_left; (focus (intro w hSw; (try dsimp only at hSw); go_simp <;> with_reducible rfl)); (try simp only [Act.put, List.setIfInBounds_toArray, List.set_cons_zero, List.set_cons_succ])
          refine takeL 8 (v := ?_) rfl (by kernel_rfl) (by kernel_rfl) (by kernel_rfl) (fun _ _ _ h => h) (by kernel_rfl) ?_ (by assumption) ?_; rotate_left; (focus (intro w hSw; (try dsimp only at hSw); go_simp <;> with_reducible rfl)); (try simp only [Act.put, List.setIfInBounds_toArray, List.set_cons_zero, List.set_cons_succ])
          refine wpAnyH_done (by kernel_rfl) ?_ _
          go_wp2_with fail
          go_ret
          exact ⟨by rw [decide_eq_false HF.out]; rfl, by (repeat (first | exact Below.refl _ _ | exact Ext.refl _ | assumption | refine Below.drew ?_ | refine below_drewN ?_ _ | refine below_alloc ?_ (by first | exact Nat.le_refl _ | assumption | (simp; done) | omega | (simp; omega)) _ | refine below_ext ?_ (by assumption) (by first | exact Nat.le_refl _ | assumption | (simp; done) | omega | (simp; omega)) | refine Ext.drew ?_ | refine Ext.drewN ?_ _ | refine Ext.alloc ?_ _ | refine Ext.setCell ?_ (by first | assumption | (simp; done) | (simp; omega)) _ | refine Below.setCell ?_ (by first | assumption | (simp; done) | (simp; omega)) _ | refine Ext.trans ?_ (by assumption)))⟩
      · obtain rfl : k = n := by omega
        have HE : Hid (xs = ys) := by
          have h := HK.out
          rw [List.take_of_length_le (by rw [← Hn.out]; exact Nat.le_refl _), List.take_of_length_le (by rw [← Hm.out]; exact Nat.le_refl _)] at h
          exact h
        go_wp2_with fail
        go_ret
        exact ⟨by rw [decide_eq_true HE.out]; rfl, e1⟩
  · have HF : Hid (xs ≠ ys) := fun e => hne (by rw [hn, hm, e])
    have hb : ((n : Int) != (m : Int)) = true := by simp; omega
    clear hn hm hr hs
    go_enter Tryz.func24, Tryz.ntmps24
    go_wp2_with fail
    go_ret
    exact ⟨by rw [decide_eq_false HF.out]; rfl, Ext.refl _⟩
end Go.Proofs.YtmecjjmlccdppaaGreatDoor
/- Stages: what reads, and what it is to be the same. -/
namespace Go.Proofs.YtmecjjmlccdppaaGreatDoor
open Go.RowKit
set_option linter.unusedVariables false
set_option linter.unusedSimpArgs false

def sumEq (x y : Su) : Bool := x.a == y.a && (x.b == y.b && (x.c == y.c && x.d == y.d))
def sameR (x y : Rec) : Bool :=
  x.kind == y.kind && (x.name.toList == y.name.toList && (x.frm == y.frm && (x.guid == y.guid && (x.index == y.index && (x.count == y.count && (x.data.toList == y.data.toList && (sumEq (sumR x) (sumR y) && decide (x.own = y.own))))))))
structure Stg.rd (w : World) (x : Stg) : Prop where
  begR : Rd w 0 w.heap.size x.beg.oA (prps x.beg.own)
  begL : x.beg.on = x.beg.own.length
  begN : x.beg.on ≤ 100000000
  bodyN : x.bn = x.body.length
  bodyM : x.bn ≤ 200000000
  bodyR : Rd w 0 w.heap.size x.bA (blks x.body)
theorem Stg.ok.rd {w : World} {x : Stg} (h : x.ok w) : x.rd w := ⟨h.begR, h.beg.own, h.begN, h.bodyN, by have := h.bodyM; omega, h.bodyR⟩
theorem Stg.rd.ext {w w' : World} {x : Stg} (h : x.rd w) (e : Ext w w') : x.rd w' := ⟨Rd.at h.begR e (Nat.le_refl _), h.begL, h.begN, h.bodyN, h.bodyM, Rd.at h.bodyR e (Nat.le_refl _)⟩
def sameS (x y : Stg) : Bool :=
  x.into.toList == y.into.toList && (sameR x.beg y.beg && (decide (x.body = y.body) && (x.pos == y.pos && (x.next == y.next && (sumEq x.su y.su && x.done == y.done)))))
end Go.Proofs.YtmecjjmlccdppaaGreatDoor
