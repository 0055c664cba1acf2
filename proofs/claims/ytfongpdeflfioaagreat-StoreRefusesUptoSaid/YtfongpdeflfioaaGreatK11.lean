/- The texts Cat, Words, Fwords, Feed in one file. -/
import Derived.Test.YtfongpdeflfioaaGreatK2
import Derived.Test.YtfongpdeflfioaaGreatK4
import Derived.Lib.AppendZeros
import Derived.Deep.Cut
import Derived.Laws.IdiomCopy
/- octets.Join: slices.Concat over rows of octets, slices.Grow of nothing. -/
namespace Go.Proofs.YtfongpdeflfioaaGreat
open Go.RowKit
set_option linter.unusedVariables false
set_option linter.unusedSimpArgs false

/-- a row of octets by its value -/
structure Sb where
  A : Option Addr
  n : Nat
  c : Nat
  l : List UInt8
def Sb.val (x : Sb) : Value := .slice x.A x.n x.c
def sbs (xs : List Sb) : List Value := xs.map Sb.val
def Sb.ok (w : World) (x : Sb) : Prop := x.n = x.l.length ∧ Rd w 0 w.heap.size x.A (bytes x.l)
theorem Sb.ok.ext {w w' : World} {x : Sb} (h : x.ok w) (e : Ext w w') : x.ok w' := ⟨h.1, Rd.at h.2 e (Nat.le_refl _)⟩
def catL (xs : List Sb) : List UInt8 := xs.flatMap Sb.l
theorem catL_upto (xs : List Sb) (k : Nat) (h : k < xs.length) : catL (xs.take (k + 1)) = catL (xs.take k) ++ xs[k].l := by
  rw [List.take_succ_eq_append_getElem h, catL, List.flatMap_append]; simp [catL]
theorem catL_le (xs : List Sb) (k : Nat) : (catL (xs.take k)).length ≤ (catL xs).length := by
  have : catL xs = catL (xs.take k) ++ catL (xs.drop k) := by rw [catL, catL, catL, ← List.flatMap_append, List.take_append_drop]
  rw [this, List.length_append]; omega
theorem sbs_at {w : World} {lo h : Nat} {A : Option Addr} {xs : List Sb} (hr : Rd w lo h A (sbs xs)) {k : Nat} (hk : k < xs.length) :
    ∃ b o, A = some ⟨b, o, none⟩ ∧ w.cell? ⟨b, o + k, none⟩ = some (.slice xs[k].A xs[k].n xs[k].c) := by
  obtain ⟨b, o, h1, h2, h3, h4⟩ := hr (fun e => by have : (sbs xs).length = xs.length := by simp [sbs]
                                                   rw [e] at this; simp at this; omega)
  exact ⟨b, o, h1, h4 k _ (by simp [sbs, List.getElem?_eq_getElem hk, Sb.val])⟩

set_option maxRecDepth 100000 in
set_option maxHeartbeats 2000000 in
theorem grow0_any (w : World) (m : Nat) (hm : m ≤ 100000000000) :
    Calls Tryz.prog 144 #[.slice none 0 0, .int .i64 m] w fun e w' => ∃ v, e = .returned v ∧ w'.ownsRow w.heap.size 5 1 v 0 [] ∧ Ext w w' := by
  obtain ⟨i0, hi0, hz0, hz1, hz2⟩ := info_parts info5
  rcases Nat.eq_zero_or_pos m with h0 | h0
  · subst h0
    rw [show ((0 : Nat) : Int) = 0 from rfl]
    go_enter Tryz.func144, Tryz.ntmps144
    go_wp2_with fail
    go_ret
    exact ⟨_, rfl, World.ownsRow_nil _ _ _ _, Ext.refl _⟩
  · have hrun : ∀ ty, (Builtin.append_ #[33, 3] ty #[.slice none 0 0, .int .i64 (m : Int)]).run Tryz.prog w = _ := fun ty =>
      Lib.run_append_nil_zeros (P := Tryz.prog) w 33 3 ty 5 i0 _ .i64 .i64 Tryz.underlying33 Tryz.underlying3 hi0 hz0 m h0 (by rw [hz1]; omega) (by omega) (by rw [hz2]; omega)
    have hG1 : m ≤ grownCap w m 0 5 := grownCap_ge w _ _ _
    have hG2 : grownCap w m 0 5 ≤ maxLen := grownCap_le_maxLen w m 0 5 (by simp only [maxLen]; omega)
    generalize grownCap w m 0 5 = G at *
    obtain ⟨ROW, hROW⟩ : ∃ ROW : Array Value, ROW = Builtin.zeroCells (Value.int .u8 0).cells m ++ Builtin.zeroCells (Value.int .u8 0).cells (G - m) := ⟨_, rfl⟩
    rw [← hROW] at hrun
    have hsz : ROW.size = G := by
      rw [hROW]
      simp only [Builtin.zeroCells, Array.size_append, Array.size_map, Array.size_range, Value.cells, List.size_toArray, List.length_cons, List.length_nil]
      omega
    obtain ⟨w1, hw1⟩ : ∃ w1, w1 = w.drew.alloc (.cells ROW 5) := ⟨_, rfl⟩
    rw [← hw1] at hrun
    have hown : w1.ownsRow w.heap.size 5 1 (.slice (some ⟨w.heap.size, 0, none⟩) 0 G) 0 [] := by
      rw [hw1]
      exact ⟨rfl, .inr ⟨w.heap.size, G, ROW, rfl, Nat.le_refl _, heap_alloc_new w.drew _, Nat.zero_le _, hG2, by omega, by simp⟩⟩
    have e1 : Ext w w1 := by rw [hw1]; exact ((Ext.refl w).drew).alloc _
    have HOwn := Lib.hid hown
    have HRun := Lib.hid hrun
    have hmp : (0 : Int) < m := by omega
    simp only [maxLen] at hG2
    clear hw1 hROW hsz hrun hown
    go_enter Tryz.func144, Tryz.ntmps144
    go_wp2_with (at_builtin; refine Lib.wpList_append_run _ rfl (.tmp 20) (.tmp 21) _ _ rfl _ _ rfl rfl _ _ (HRun.out _) ?_)
    go_ret
    exact ⟨_, rfl, HOwn.out, e1⟩

set_option maxRecDepth 100000 in
set_option maxHeartbeats 4000000 in
theorem concat_any (w : World) (A : Option Addr) (n c : Nat) (xs : List Sb) (hn : n = xs.length) (hr : Rd w 0 w.heap.size A (sbs xs)) (hok : ∀ x ∈ xs, x.ok w) (hN : n ≤ 100000000000) (hT : (catL xs).length ≤ 100000000000) :
    Calls Tryz.prog 129 #[.slice A n c] w fun e w' => ∃ v, e = .returned v ∧ w'.ownsRow w.heap.size 5 1 v (catL xs).length (bytes (catL xs)) ∧ Ext w w' := by
  obtain ⟨i0, hi0, hz0, hz1, hz2⟩ := info_parts info5
  have Hn := Lib.hid hn
  have HR := Lib.hid hr
  have HO := Lib.hid hok
  have HT := Lib.hid hT
  clear hn hr hok
  go_enter Tryz.func129, Tryz.ntmps129
  go_wp2_with fail
  go_loop [3, 11] (fun s i => ∃ k : Nat, k ≤ n ∧ i = .int .i64 (k : Int) ∧ s = .int .i64 ((catL (xs.take k)).length : Int)) (fun _ i => n - (intOf i).toNat)
  case atStart => exact ⟨0, Nat.zero_le _, rfl, rfl⟩
  case round =>
    obtain ⟨k, hk, rfl, rfl⟩ := hrel
    have hle := catL_le xs k
    by_cases hlt : k < n
    · have hl : k < xs.length := by rw [← Hn.out]; exact hlt
      obtain ⟨b1, o1, rfl, f0⟩ := sbs_at HR.out hl
      have HU := Lib.hid (catL_upto xs k hl)
      have hle2 := catL_le xs (k + 1)
      have hx := (HO.out _ (List.getElem_mem hl)).1
      have hlen : (catL (xs.take (k + 1))).length = (catL (xs.take k)).length + xs[k].n := by rw [catL_upto xs k hl, List.length_append, hx]
      generalize xs[k].A = xA at *
      generalize xs[k].c = xc at *
      generalize xs[k].n = xn at *
      generalize (catL (xs.take k)).length = q at *
      have HL := Lib.hid hlen
      have hq : q + xn ≤ 100000000000 := by have := HT.out; omega
      clear hx hlen hle hle2
      go_wp2_with fail
      go_round
      case rel => exact ⟨k + 1, by omega, by go_num, by rw [HL.out]; go_num⟩
      case measure => simp [intOf]; omega
    · obtain rfl : k = n := by omega
      have hall : (catL (xs.take k)).length = (catL xs).length := by rw [List.take_of_length_le (by rw [← Hn.out]; exact Nat.le_refl _)]
      rw [hall]
      clear hall hle hlt
      generalize hm : (catL xs).length = m at *
      have HM := Lib.hid hm
      clear hm
      go_wp2_with fail
      refine (grow0_any w m hT).mono ?_
      rintro e w2 ⟨v2, rfl, hown2, e2⟩
      have HOwn2 := Lib.hid hown2
      clear hown2
      go_wp2_with fail
      go_loopw [6, 27] (fun v i wr => ∃ j : Nat, j ≤ k ∧ i = .int .i64 (j : Int) ∧ Hid (wr.ownsRow w.heap.size 5 1 v (catL (xs.take j)).length (bytes (catL (xs.take j)))) ∧ Ext w wr) (fun _ i _ => k - (intOf i).toNat)
      case atStart => exact ⟨0, Nat.zero_le _, rfl, HOwn2, e2⟩
      case round =>
        clear HOwn2 e2
        obtain ⟨j, hj, rfl, hown, e1⟩ := hrel
        by_cases hlt : j < k
        · have hl : j < xs.length := by rw [← Hn.out]; exact hlt
          obtain ⟨b1, o1, rfl, f0⟩ := sbs_at (HR.out.at e1 (Nat.le_refl _)) hl
          have HU := Lib.hid (catL_upto xs j hl)
          have hle2 := catL_le xs (j + 1)
          have hx := HO.out _ (List.getElem_mem hl)
          have hlen : (catL (xs.take (j + 1))).length = (catL (xs.take j)).length + xs[j].n := by rw [catL_upto xs j hl, List.length_append, hx.1]
          have HX := Lib.hid hx
          have HL := Lib.hid hlen
          have hq : (catL (xs.take j)).length + xs[j].n ≤ 100000000000 := by have := HM.out; omega
          clear hx hlen hle2
          generalize xs[j] = x at *
          obtain ⟨xA, xn, xc, xl⟩ := x
          dsimp only at f0 HU HX HL hq
          go_wp2_with
            (at_builtin
             refine list_app _ rfl (.tmp 31) (.tmp 32) _ rfl 5 i0 _ 1 1 Tryz.underlying33 hi0 hz0 hz1 hz2 rfl (by omega) w.heap.size _ _ _ rfl hown.out 0 _ xA xn xc (bytes xl) rfl (by rw [bytes_length, Nat.mul_one]; exact HX.out.1.symm) (Rd.at HX.out.2 e1 (Nat.le_refl _)) (bytes_one _) (by simp only [maxLen]; omega) (by omega) e1.size ?_
             intro v3 w3 hown3 he3 _ _
             have e3 : Ext w w3 := he3 _ e1 (Nat.le_refl _)
             have HOwn3 := Lib.hid hown3
             clear he3 hown3)
          go_roundw
          case rel => exact ⟨j + 1, by omega, by go_num, Lib.hid (by rw [HL.out, HU.out, bytes_append]; exact HOwn3.out), e3⟩
          case measure => simp [intOf]; omega
        · obtain rfl : j = k := by omega
          have hall : catL (xs.take j) = catL xs := by rw [List.take_of_length_le (by rw [← Hn.out]; exact Nat.le_refl _)]
          have HAll := Lib.hid hall
          clear hall
          go_wp2_with fail
          go_ret
          refine ⟨_, rfl, ?_, e1⟩
          have := hown.out
          rw [HAll.out] at this
          rw [HM.out] at this
          rw [HM.out]
          exact this
theorem join_any (w : World) (A : Option Addr) (n c : Nat) (xs : List Sb) (hn : n = xs.length) (hr : Rd w 0 w.heap.size A (sbs xs)) (hok : ∀ x ∈ xs, x.ok w) (hN : n ≤ 100000000000) (hT : (catL xs).length ≤ 100000000000) :
    Calls Tryz.prog 98 #[.slice A n c] w fun e w' => ∃ v, e = .returned v ∧ w'.ownsRow w.heap.size 5 1 v (catL xs).length (bytes (catL xs)) ∧ Ext w w' := by
  have HC := Lib.hid (concat_any w A n c xs hn hr hok hN hT)
  clear hn hr hok hT
  go_enter Tryz.func98, Tryz.ntmps98
  go_wp2_with fail
  refine HC.out.mono ?_
  rintro e w2 ⟨v2, rfl, hown2, e2⟩
  have H := Lib.hid hown2
  clear hown2
  go_wp2_with fail
  go_ret
  exact ⟨_, rfl, H.out, e2⟩
end Go.Proofs.YtfongpdeflfioaaGreat
/- Words of octets: the plain law; the reference's Words. -/
namespace Go.Proofs.YtfongpdeflfioaaGreat
open Go.RowKit
set_option linter.unusedVariables false
set_option linter.unusedSimpArgs false

/-- octet j, 0 behind the end -/
def oc (l : List UInt8) (j : Nat) : Int := ((l[j]?.map UInt8.toNat).getD 0 : Nat)
theorem oc_at (l : List UInt8) (j : Nat) (h : j < l.length) : oc l j = (l[j].toNat : Int) := by simp [oc, h]
theorem oc_out (l : List UInt8) (j : Nat) (h : l.length ≤ j) : oc l j = 0 := by simp [oc, h]
theorem oc_bd (l : List UInt8) (j : Nat) : 0 ≤ oc l j ∧ oc l j ≤ 255 := by
  rcases Nat.lt_or_ge j l.length with h | h
  · rw [oc_at l j h]
    have := l[j].toNat_lt
    omega
  · rw [oc_out l j h]; omega
/-- m octets from i on as a number -/
def part (l : List UInt8) (i : Nat) : Nat → Int
  | 0 => 0
  | m + 1 => part l i m * 256 + oc l (i + m)
theorem part_bd (l : List UInt8) (i : Nat) : ∀ m, 0 ≤ part l i m ∧ part l i m < 256 ^ m
  | 0 => by simp [part]
  | m + 1 => by
    have := part_bd l i m
    have := oc_bd l (i + m)
    rw [part, Int.pow_succ]
    omega
def word (l : List UInt8) (i : Nat) : Int := part l i 4
theorem word_bd (l : List UInt8) (i : Nat) : 0 ≤ word l i ∧ word l i ≤ 4294967295 := by
  have := part_bd l i 4
  rw [word]
  omega
def words (l : List UInt8) : List Int := (List.range ((l.length + 3) / 4)).map fun k => word l (4 * k)
def wordsUpto (l : List UInt8) (k : Nat) : List Int := (List.range k).map fun k => word l (4 * k)
theorem words_upto (l : List UInt8) (k : Nat) : wordsUpto l (k + 1) = wordsUpto l k ++ [word l (4 * k)] := by simp [wordsUpto, List.range_succ]
def u32s (xs : List Int) : List Value := xs.map fun x => .int .u32 x
theorem u32s_append (a b : List Int) : u32s (a ++ b) = u32s a ++ u32s b := by simp [u32s]
theorem u32s_length (a : List Int) : (u32s a).length = a.length := by simp [u32s]
theorem words_length (l : List UInt8) : (words l).length = (l.length + 3) / 4 := by simp [words]
theorem words_bd (l : List UInt8) : ∀ x ∈ words l, 0 ≤ x ∧ x ≤ 4294967295 := by
  intro x hx
  simp only [words, List.mem_map] at hx
  obtain ⟨k, _, rfl⟩ := hx
  exact word_bd l _
theorem infoU : (Tryz.prog.info? 186).map (fun i => (i.zero, i.size, i.bytes)) = some (some (.int .u32 0), 1, 4) := by kernel_rfl

set_option maxRecDepth 100000 in
set_option maxHeartbeats 2000000 in
theorem rwords_any (w : World) (A : Option Addr) (n c : Nat) (l : List UInt8) (hn : n = l.length) (hr : Rd w 0 w.heap.size A (bytes l)) (hN : n ≤ 100000000000) :
    Calls Tryz.prog 135 #[.slice A n c] w fun e w' => ∃ v, e = .returned v ∧ w'.ownsRow w.heap.size 186 1 v (words l).length (u32s (words l)) ∧ Ext w w' := by
  obtain ⟨i0, hi0, hz0, hz1, hz2⟩ := info_parts infoU
  have Hn := Lib.hid hn
  have HR := Lib.hid hr
  clear hn hr
  go_enter Tryz.func135, Tryz.ntmps135
  go_wp2_with fail
  go_loopw [3, 4] (fun v i wr => ∃ k : Nat, 4 * k ≤ n + 3 ∧ i = .int .i64 (4 * (k : Int)) ∧ Hid (wr.ownsRow w.heap.size 186 1 v k (u32s (wordsUpto l k))) ∧ Ext w wr) (fun _ i _ => (n + 4 - (intOf i).toNat))
  case atStart => exact ⟨0, by omega, rfl, Lib.hid (World.ownsRow_nil _ _ _ _), Ext.refl _⟩
  case round =>
    obtain ⟨k, hk, rfl, hown, e1⟩ := hrel
    by_cases hlt : 4 * k < n
    · go_wp2_with fail
      go_loop [5, 6] (fun x j => ∃ m : Nat, m ≤ 4 ∧ j = .int .i64 (4 * (k : Int) + m) ∧ x = .int .u32 (part l (4 * k) m)) (fun _ j => (4 * k + 4 - (intOf j).toNat))
      case atStart => exact ⟨0, by omega, by simp, rfl⟩
      case round =>
        obtain ⟨m, hm, rfl, rfl⟩ := hrel
        by_cases hm4 : m < 4
        · have hp := part_bd l (4 * k) m
          have hp2 : part l (4 * k) m < 16777216 := by
            have h3 : (256 : Int) ^ m ≤ 256 ^ 3 := by
              rcases (show m = 0 ∨ m = 1 ∨ m = 2 ∨ m = 3 by omega) with rfl | rfl | rfl | rfl <;> decide
            have : (256 : Int) ^ 3 = 16777216 := by decide
            omega
          have HP := Lib.hid (show part l (4 * k) (m + 1) = part l (4 * k) m * 256 + oc l (4 * k + m) from rfl)
          have hp0 := hp.1
          clear hp
          by_cases hb : 4 * k + m < n
          · have hbl : 4 * k + m < l.length := by rw [← Hn.out]; exact hb
            obtain ⟨b1, o1, rfl, _, _, f0⟩ := rd_byte (HR.out.ext e1 (Nat.le_refl _)) hbl
            have HO := Lib.hid (oc_at l _ hbl)
            have h255 := l[4 * k + m].toNat_lt
            generalize l[4 * k + m].toNat = y at *
            generalize part l (4 * k) m = q at *
            go_wp2_with fail
            go_round
            case rel => exact ⟨m + 1, by omega, by go_num, by rw [HP.out, HO.out]⟩
            case measure => simp [intOf]; omega
          · have HO := Lib.hid (oc_out l (4 * k + m) (by rw [← Hn.out]; omega))
            generalize part l (4 * k) m = q at *
            go_wp2_with fail
            go_round
            case rel => exact ⟨m + 1, by omega, by go_num, by rw [HP.out, HO.out, Int.add_zero]⟩
            case measure => simp [intOf]; omega
        · obtain rfl : m = 4 := by omega
          have hwd := word_bd l (4 * k)
          have HWd := Lib.hid (show part l (4 * k) 4 = word l (4 * k) from rfl)
          rw [HWd.out]
          have HUp := Lib.hid (words_upto l k)
          generalize word l (4 * k) = q at *
          obtain ⟨h0, h1⟩ := hwd
          have HOwn := Lib.hid hown.out
          clear hown
          go_wp2_with
            (at_builtin
             refine list_app _ rfl (.tmp 33) (.tmp 35) _ rfl 186 i0 _ 1 4 Tryz.underlying200 hi0 hz0 hz1 hz2 rfl (by omega) w.heap.size _ k _ rfl (own_ext HOwn.out ((Ext.refl _).alloc _)) 0 _ _ 1 1 [.int .u32 q] rfl rfl
               ((rd_new _ _ _).more (Nat.zero_le _) (Nat.le_refl _)) (by simp [Value.oneCell']) (by simp only [maxLen]; omega) (by omega) (by have := e1.size; simp; omega) ?_
             intro v2 w2 hown2 he2 _ _
             have e3 : Ext w w2 := he2 _ (e1.alloc _) (Nat.le_refl _)
             have HOwn2 := Lib.hid hown2
             clear he2 hown2)
          go_roundw
          case rel => exact ⟨k + 1, by omega, by go_num, Lib.hid (by rw [HUp.out, u32s_append]; exact HOwn2.out), e3⟩
          case measure => simp [intOf]; omega
    · have HL := Lib.hid (show (words l).length = k by rw [words_length, ← Hn.out]; omega)
      have HW := Lib.hid (show words l = wordsUpto l k by rw [words, wordsUpto, ← words_length, HL.out])
      go_wp2_with fail
      go_ret
      exact ⟨_, rfl, by rw [HL.out, HW.out]; exact hown.out, e1⟩
end Go.Proofs.YtfongpdeflfioaaGreat
/- fletch.Words: the walk. -/
namespace Go.Proofs.YtfongpdeflfioaaGreat
open Go.RowKit
set_option linter.unusedVariables false
set_option linter.unusedSimpArgs false

theorem word_eq (l : List UInt8) (i : Nat) : word l i = oc l i * 16777216 + oc l (i + 1) * 65536 + oc l (i + 2) * 256 + oc l (i + 3) := by
  simp only [word, part, Nat.add_zero]
  omega
/-- the four octets from i on, zeros behind the end: as cells -/
def four (l : List UInt8) (i : Nat) : List Value := [.int .u8 (oc l i), .int .u8 (oc l (i + 1)), .int .u8 (oc l (i + 2)), .int .u8 (oc l (i + 3))]
theorem four_at (l : List UInt8) (i : Nat) (h : i < l.length) :
    bytes ((l.drop i).take 4) ++ ([.int .u8 0, .int .u8 0, .int .u8 0, .int .u8 0] : List Value).drop (bytes ((l.drop i).take 4)).length = four l i := by
  rw [bytes_length, List.length_take, List.length_drop]
  obtain ⟨d, hd⟩ : ∃ d, l.drop i = d := ⟨_, rfl⟩
  have hdl : d.length = l.length - i := by rw [← hd, List.length_drop]
  have hg : ∀ j, d[j]? = l[i + j]? := fun j => by rw [← hd, List.getElem?_drop]
  have ho : ∀ j, oc l (i + j) = ((d[j]?.map UInt8.toNat).getD 0 : Nat) := fun j => by rw [oc, hg]
  have h0 := ho 0
  rw [Nat.add_zero] at h0
  rw [hd, four, h0, ho 1, ho 2, ho 3, show l.length - i = d.length from hdl.symm]
  match d with
  | [] => simp at hdl; omega
  | [a] => rfl
  | [a, b] => rfl
  | [a, b, c] => rfl
  | a :: b :: c :: e :: r =>
    have : min 4 (a :: b :: c :: e :: r).length = 4 := by simp
    rw [this]
    rfl
theorem or_i (m : Nat) (a b M : Int) (hM : M = 2 ^ m) (ha : 0 ≤ a) (hb : 0 ≤ b) (hb2 : b < M) (h : a * M + b < 4294967296) : bits BinOp.or IntKind.u32 (a * M) b = a * M + b := by
  obtain ⟨a, rfl⟩ := Int.eq_ofNat_of_zero_le ha
  obtain ⟨b, rfl⟩ := Int.eq_ofNat_of_zero_le hb
  have hM' : M = ((2 ^ m : Nat) : Int) := by rw [hM, Int.natCast_pow]; rfl
  subst hM'
  have hb3 : b < 2 ^ m := by omega
  have h4 : a * 2 ^ m + b < 4294967296 := by rw [← Int.natCast_mul] at h; omega
  have h1 : (BitVec.ofInt 32 (((a * 2 ^ m : Nat) : Int))).toNat = a * 2 ^ m := by
    rw [BitVec.ofInt_natCast, BitVec.toNat_ofNat]; exact Nat.mod_eq_of_lt (by omega)
  have h2 : (BitVec.ofInt 32 (b : Int)).toNat = b := by
    rw [BitVec.ofInt_natCast, BitVec.toNat_ofNat]; exact Nat.mod_eq_of_lt (by omega)
  have h5 : a * 2 ^ m ||| b = a * 2 ^ m + b := by
    rw [Nat.mul_comm]; exact (Nat.two_pow_add_eq_or_of_lt hb3 a).symm
  show IntKind.u32.wrap ((BitVec.ofInt 32 ((a : Int) * ((2 ^ m : Nat) : Int)) ||| BitVec.ofInt 32 (b : Int)).toNat : Int) = _
  rw [show (a : Int) * ((2 ^ m : Nat) : Int) = ((a * 2 ^ m : Nat) : Int) by rw [Int.natCast_mul], BitVec.toNat_or, h1, h2, h5]
  rw [IntKind.wrap_u32, Int.emod_eq_of_lt (by omega) (by omega), Int.natCast_add]
theorem wp_copy_runI' {P : Program} (w : World) {o : Oper} {a : Act} {K : Act → World → Prop} {Q : Exit → Act → World → Prop} (d s : Operand) (t t' : TypeId)
    (ho : o.op = .call { callee := .builtin .copy, args := #[d, s], argTypes := #[t, t'] }) (v u : Value) (hd : a.eval d = v) (hs : a.eval s = u) {v' : Value} {w' : World}
    (hr : (Builtin.copy_ #[t, t'] o.type #[v, u]).run P w = .ok v' w') (h : K (a.put o.dst v') w') : o.wp P a w K Q := by
  unfold Oper.wp execOp
  simp only [ho, resolve, invoke, builtin, Sem.run_bind, Sem.run_pure, Result.andThen_ok, List.map_toArray, List.map_cons, List.map_nil, hd, hs, hr]
  exact h
set_option maxRecDepth 100000 in
set_option maxHeartbeats 4000000 in
theorem fwords_any (w : World) (A : Option Addr) (n c : Nat) (l : List UInt8) (hn : n = l.length) (hr : Rd w 0 w.heap.size A (bytes l)) (hnc : n ≤ c) (hN : n ≤ 100000000000) :
    Calls Tryz.prog 146 #[.slice A n c] w fun e w' => ∃ v, e = .returned v ∧ w'.ownsRow w.heap.size 186 1 v (words l).length (u32s (words l)) ∧ Ext w w' := by
  obtain ⟨i0, hi0, hz0, hz1, hz2⟩ := info_parts infoU
  obtain ⟨i5, hi5, _, hy1, _⟩ := info_parts info5
  have hsz : (Tryz.prog.info? 5).map (·.size) = some 1 := by rw [hi5]; simp [hy1]
  have Hn := Lib.hid hn
  have HR := Lib.hid hr
  have hdv : (((n : Int) + 4 - 1) / 4) = (((n + 3) / 4 : Nat) : Int) := by omega
  clear hn hr
  go_enter Tryz.func146, Tryz.ntmps146
  go_wp2_with (refine wpList_make_own _ rfl (.const (.int .i64 0)) (.tmp 10) _ rfl w.heap.size 186 i0 _ 1 Tryz.underlying200 hi0 hz0 hz1 .i64 .i64 _ ((n + 3) / 4) rfl rfl (by first | exact hdv | omega) (by rw [hz2]; omega) (by simp only [maxLen]; omega) (Nat.le_refl _) ?_; intro w2 hown2 hg2)
  have e2 : Ext w w2 := ext_grown (Ext.refl w) (World.ownsRow_nil w w.heap.size 186 1) (show w.grownBy w2 (Value.slice none 0 0).ownBlock from hg2) (Nat.le_refl _)
  have HOwn0 := Lib.hid hown2
  clear hown2 hg2 hdv
  go_wp2_with fail
  go_loopw [3, 4] (fun v i wr => ∃ k : Nat, 4 * k ≤ n + 3 ∧ i = .int .i64 (4 * (k : Int)) ∧ Hid (wr.ownsRow w.heap.size 186 1 v k (u32s (wordsUpto l k))) ∧ Ext w wr) (fun _ i _ => (n + 4 - (intOf i).toNat))
  case atStart => exact ⟨0, by omega, rfl, HOwn0, e2⟩
  case round =>
    clear HOwn0 e2
    obtain ⟨k, hk, rfl, hown, e1⟩ := hrel
    by_cases hlt : 4 * k < n
    · go_wp2_with fail
      generalize hw1 : World.alloc wr _ = w1
      have HBx := Lib.hid (Bx.new hw1)
      have ew1 : Ext wr w1 := by rw [← hw1]; exact (Ext.refl wr).alloc _
      have hzs : w1.heap.size = wr.heap.size + 1 := by rw [← hw1]; simp
      have HZ := Lib.hid hzs
      clear hw1 hzs
      have hcp : ∀ ty, (Builtin.copy_ #[33, 33] ty #[.slice (some ⟨wr.heap.size, 0, none⟩) 4 4, .slice (shiftA A c (4 * k) 1) (n - 4 * k) (c - 4 * k)]).run Tryz.prog w1.drew = .ok (goInt ((Nat.min (n - 4 * k) 4 : Nat) : Int)) (w1.drew.setCells wr.heap.size 0 (bytes ((l.drop (4 * k)).take 4))) := fun ty => by
        have hrd : Rd w1 0 w1.heap.size (shiftA A c (4 * k) 1) (bytes (l.drop (4 * k))) := by
          have := ((HR.out.at (e1.trans ew1) (Nat.le_refl _)).from_ (n := n) (c := c) (k := 4 * k) (size := 1) (by rw [bytes_length, Nat.mul_one]; exact Hn.out.symm) (by omega) hnc)
          rwa [Nat.mul_one, bytes_drop] at this
        obtain ⟨b, o, he, _, _, hcs⟩ := hrd (fun e => by have := bytes_length (l.drop (4 * k)); rw [e] at this; simp at this; have := Hn.out; omega)
        rw [he]
        have hlen : (bytes ((l.drop (4 * k)).take 4)).length = Nat.min (n - 4 * k) 4 := by rw [bytes_length, List.length_take, List.length_drop, ← Hn.out]; exact Nat.min_comm _ _
        have h4 : Nat.min (n - 4 * k) 4 ≤ 4 := Nat.min_le_right _ _
        have := run_copy_cells (P := Tryz.prog) w1.drew 33 33 ty 5 wr.heap.size 0 4 4 ⟨b, o, none⟩ (n - 4 * k) (c - 4 * k) (bytes ((l.drop (4 * k)).take 4)) Tryz.underlying33 hsz hlen
          (fun j v hj => by
            rw [add_lit]
            refine hcs j v ?_
            rw [← bytes_take, List.getElem?_take] at hj
            split at hj
            · exact hj
            · cases hj)
          (fun j hj => by
            have hj' : j < 4 := by rw [hlen] at hj; omega
            rw [Nat.zero_add]
            show (w1.cell? _).isSome = true
            rw [HBx.out.cell j _ (List.getElem?_eq_getElem (by simpa using hj'))]; rfl)
          (fun j hj => by
            have hj' : j < 4 := by rw [hlen] at hj; omega
            rw [Nat.zero_add]
            exact HBx.out.frozen j _ (List.getElem?_eq_getElem (by simpa using hj')))
          (fun v hv => bytes_one _ v hv)
        rw [hlen] at this
        exact this
      obtain ⟨w3, hw3⟩ : ∃ w3, w3 = w1.drew.setCells wr.heap.size 0 (bytes ((l.drop (4 * k)).take 4)) := ⟨_, rfl⟩
      have hb3 : Bx w3 wr.heap.size (four l (4 * k)) := by
        have h1 := bx_sets (bytes ((l.drop (4 * k)).take 4)) 0 _ w1.drew (HBx.out.ext ((Ext.refl w1).drew)) (by
          rw [bytes_length, List.length_take]
          have : ([.int .u8 0, .int .u8 0, .int .u8 0, .int .u8 0] : List Value).length = 4 := rfl
          show 0 + min 4 _ ≤ ([.int .u8 0, .int .u8 0, .int .u8 0, .int .u8 0] : List Value).length
          omega)
        rw [← hw3] at h1
        have h2 := four_at l (4 * k) (by rw [← Hn.out]; exact hlt)
        rw [List.take_zero, List.nil_append, Nat.zero_add] at h1
        exact h2 ▸ h1
      have e3 : Ext wr w3 := by
        rw [hw3]
        exact below_setCells wr.heap.size _ _ _ ew1.drew (Nat.le_refl _)
      have g0 := hb3.cell 0 _ rfl
      have g1 := hb3.cell 1 _ rfl
      have g2 := hb3.cell 2 _ rfl
      have g3 := hb3.cell 3 _ rfl
      rw [← hw3] at hcp
      have HC := Lib.hid hcp
      have hsl : ∀ W, (Instr.slice 33 (.slice A n c) (some (.int .i64 (4 * (k : Int)))) none none).run Tryz.prog W = .ok (.slice (shiftA A c (4 * k) 1) (n - 4 * k) (c - 4 * k)) W := fun W => run_slice_from (P := Tryz.prog) W 33 5 i5 1 Tryz.underlying33 hi5 hy1 A n c (4 * k) _ (by omega) (by omega)
      have hb0 := oc_bd l (4 * k)
      have hb1 := oc_bd l (4 * k + 1)
      have hb2 := oc_bd l (4 * k + 2)
      have hb3' := oc_bd l (4 * k + 3)
      have HWd := Lib.hid (word_eq l (4 * k))
      have HUp := Lib.hid (words_upto l k)
      clear hcp hb3 hw3
      generalize oc l (4 * k) = q0 at *
      generalize oc l (4 * k + 1) = q1 at *
      generalize oc l (4 * k + 2) = q2 at *
      generalize oc l (4 * k + 3) = q3 at *
      refine rgnE (S := fun w' => w' = w1.drew) (by kernel_rfl) ?_ (fun hHeld => ?_)
      case refine_1 => rfl
      refine takeE 0 (v := ?_) rfl (by kernel_rfl) (by kernel_rfl) (by kernel_rfl) (by kernel_rfl) (fun _ _ _ h => h) (by kernel_rfl) ?_ (by assumption) ?_; rotate_left; (focus (intro w hSw; (try dsimp only at hSw); (try go_split_ands); go_simp <;> with_reducible rfl)); (try simp only [Act.put, lyA, lyB, lyC])
      refine takeE 1 (v := ?_) rfl (by kernel_rfl) (by kernel_rfl) (by kernel_rfl) (by kernel_rfl) (fun _ _ _ h => h) (by kernel_rfl) ?_ (by assumption) ?_; rotate_left; (focus (intro w hSw; (try dsimp only at hSw); (try go_split_ands); go_simp <;> with_reducible rfl)); (try simp only [Act.put, lyA, lyB, lyC])
      refine takeE 2 (v := ?_) rfl (by kernel_rfl) (by kernel_rfl) (by kernel_rfl) (by kernel_rfl) (fun _ _ _ h => h) (by kernel_rfl) ?_ (by assumption) ?_; rotate_left; (focus (intro w hSw; (try dsimp only at hSw); (try go_split_ands); go_simp <;> with_reducible rfl)); (try simp only [Act.put, lyA, lyB, lyC])
      refine takeE 3 (v := ?_) rfl (by kernel_rfl) (by kernel_rfl) (by kernel_rfl) (by kernel_rfl) (fun _ _ _ h => h) (by kernel_rfl) ?_ (by assumption) ?_; rotate_left; (focus (intro w hSw; (try dsimp only at hSw); (try go_split_ands); go_simp <;> with_reducible rfl)); (try simp only [Act.put, lyA, lyB, lyC])
      refine lastE 4 rfl (by kernel_rfl) (by kernel_rfl) (by kernel_rfl) (by kernel_rfl) (fun K hK => ?_)
      refine wp_copy_runI' _ (.tmp 18) (.tmp 21) 33 33 rfl (.slice (some ⟨wr.heap.size, 0, none⟩) 4 4) (.slice (shiftA A c (4 * k) 1) (n - 4 * k) (c - 4 * k)) rfl rfl (HC.out _) ?_
      refine hK.out _ _ ?_; clear hK K; (try simp only [Act.put, lyA, lyB, lyC])
      have hq : word l (4 * k) = bits BinOp.or IntKind.u32 (bits BinOp.or IntKind.u32 (bits BinOp.or IntKind.u32 (q0 * 16777216) (q1 * 65536)) (q2 * 256)) q3 := by
        rw [HWd.out, or_i 24 q0 (q1 * 65536) 16777216 rfl (by omega) (by omega) (by omega) (by omega), show q0 * 16777216 + q1 * 65536 = (q0 * 256 + q1) * 65536 by omega,
          or_i 16 (q0 * 256 + q1) (q2 * 256) 65536 rfl (by omega) (by omega) (by omega) (by omega), show (q0 * 256 + q1) * 65536 + q2 * 256 = (q0 * 65536 + q1 * 256 + q2) * 256 by omega,
          or_i 8 (q0 * 65536 + q1 * 256 + q2) q3 256 rfl (by omega) (by omega) (by omega) (by omega)]
        first | done | omega
      have HQ := Lib.hid hq
      clear hq
      go_wp2_with
        (at_builtin
         refine list_app _ rfl (.tmp 23) (.tmp 42) _ rfl 186 i0 _ 1 4 Tryz.underlying200 hi0 hz0 hz1 hz2 rfl (by omega) w.heap.size _ k _ rfl (own_ext hown.out (e3.alloc _)) 0 _ _ 1 1 [.int .u32 (bits BinOp.or IntKind.u32 (bits BinOp.or IntKind.u32 (bits BinOp.or IntKind.u32 (q0 * 16777216) (q1 * 65536)) (q2 * 256)) q3)] rfl rfl
           ((rd_new _ _ _).more (Nat.zero_le _) (Nat.le_refl _)) (by simp [Value.oneCell']) (by simp only [maxLen]; omega) (by omega) (by have := e1.size; have := e3.size; simp; omega) ?_
         intro v5 w5 hown5 he5 _ _
         have e5 : Ext w w5 := he5 _ ((e1.trans e3).alloc _) (Nat.le_refl _)
         have HOwn5 := Lib.hid hown5
         clear he5 hown5)
      go_roundw
      case rel => exact ⟨k + 1, by omega, by go_num, Lib.hid (by rw [HUp.out, u32s_append, HQ.out]; exact HOwn5.out), e5⟩
      case measure => simp [intOf]; omega
    · have HL := Lib.hid (show (words l).length = k by rw [words_length, ← Hn.out]; omega)
      have HW := Lib.hid (show words l = wordsUpto l k by rw [words, wordsUpto, ← words_length, HL.out])
      go_wp2_with fail
      go_ret
      exact ⟨_, rfl, by rw [HL.out, HW.out]; exact hown.out, e1⟩
end Go.Proofs.YtfongpdeflfioaaGreat
/- Feed of both: a running sum behind octets. -/
namespace Go.Proofs.YtfongpdeflfioaaGreat
open Go.RowKit
set_option linter.unusedVariables false
set_option linter.unusedSimpArgs false

structure Su where
  a : Int
  b : Int
  c : Int
  d : Int
def Su.cells (s : Su) : List Value := [.int .u64 s.a, .int .u64 s.b, .int .u64 s.c, .int .u64 s.d]
def Su.zero : Su := ⟨0, 0, 0, 0⟩
def stp (s : Su) (x : Int) : Su := ⟨IntKind.u64.wrap (s.a + x), IntKind.u64.wrap (s.b + IntKind.u64.wrap (s.a + x)), IntKind.u64.wrap (s.c + IntKind.u64.wrap (s.b + IntKind.u64.wrap (s.a + x))),
  IntKind.u64.wrap (s.d + IntKind.u64.wrap (s.c + IntKind.u64.wrap (s.b + IntKind.u64.wrap (s.a + x))))⟩
def feed (s : Su) (l : List UInt8) : Su := (words l).foldl stp s
def feedUpto (s : Su) (l : List UInt8) (k : Nat) : Su := ((words l).take k).foldl stp s
theorem feedUpto_succ (s : Su) (l : List UInt8) (k : Nat) (h : k < (words l).length) : feedUpto s l (k + 1) = stp (feedUpto s l k) (words l)[k] := by
  rw [feedUpto, feedUpto, List.take_succ_eq_append_getElem h, List.foldl_append]; rfl
theorem feedUpto_all (s : Su) (l : List UInt8) (k : Nat) (h : k = (words l).length) : feedUpto s l k = feed s l := by
  rw [feedUpto, feed, h, List.take_length]
theorem rd_u32 {w : World} {lo h : Nat} {A : Option Addr} {l : List Int} (hr : Rd w lo h A (u32s l)) {k : Nat} (hk : k < l.length) :
    ∃ b o, A = some ⟨b, o, none⟩ ∧ lo ≤ b ∧ b < h ∧ w.cell? ⟨b, o + k, none⟩ = some (.int .u32 l[k]) := by
  obtain ⟨b, o, h1, h2, h3, h4⟩ := hr (fun e => by have := u32s_length l; rw [e] at this; simp at this; omega)
  exact ⟨b, o, h1, h2, h3, h4 k _ (by simp [u32s, List.getElem?_eq_getElem hk])⟩

theorem sizeSu : (Tryz.prog.info? 166).map (·.size) = some 4 := by kernel_rfl
set_option maxRecDepth 100000 in
set_option maxHeartbeats 4000000 in
theorem ffeed_any (w : World) (s : Su) (A : Option Addr) (n c : Nat) (l : List UInt8) (hn : n = l.length) (hr : Rd w 0 w.heap.size A (bytes l)) (hnc : n ≤ c) (hN : n ≤ 100000000000) :
    Calls Tryz.prog 131 #[.agg s.cells.toArray, .slice A n c] w fun e w' => e = .returned (.agg (feed s l).cells.toArray) ∧ Ext w w' := by
  have Hn := Lib.hid hn
  have HR := Lib.hid hr
  have HB := Lib.hid (words_bd l)
  have HN := Lib.hid (words_length l)
  obtain ⟨sa, sb, sc, sd⟩ := s
  have HF0 := Lib.hid (show feedUpto ⟨sa, sb, sc, sd⟩ l 0 = ⟨sa, sb, sc, sd⟩ from rfl)
  clear hn hr
  simp only [Su.cells]
  go_enter Tryz.func131, Tryz.ntmps131
  go_wp2_with fail
  generalize hwH : World.alloc (World.alloc w _) _ = w2; have HH := Lib.hid (Heap.two hwH); clear hwH
  refine (fwords_any w2 A n c l Hn.out (HR.out.at HH.out.ext (Nat.le_refl _)) hnc hN).mono ?_
  rintro e w3 ⟨v3, rfl, hown, e3⟩
  obtain ⟨A3, c3, rfl, k1, k2, _⟩ := own_form hown
  have HH3 := Lib.hid ((HH.out.addRd e3 (Rd.of_own hown) (Nat.le_refl _)))
  clear HH hown e3
  have hml : (words l).length ≤ 100000000000 := by have := HN.out; have := Hn.out; omega
  obtain ⟨m, hm⟩ : ∃ m, m = (words l).length := ⟨_, rfl⟩
  rw [← hm] at hml ⊢
  have HM := Lib.hid hm
  clear hm k1 k2
  go_wp2_with fail
  go_loopw [10] (fun i wr => ∃ k : Nat, k ≤ m ∧ i = .int .i64 (k : Int) ∧ Hid (Heap w [.rd A3 (u32s (words l)), .box (w.heap.size + 1) [.int .u64 0, .int .u64 0, .int .u64 0, .int .u64 0], .box w.heap.size (feedUpto ⟨sa, sb, sc, sd⟩ l k).cells] wr)) (fun i _ => m - (intOf i).toNat)
  case atStart => exact ⟨0, Nat.zero_le _, rfl, HH3⟩
  case round =>
    clear HH3
    obtain ⟨k, hk, rfl, HH⟩ := hrel
    by_cases hlt : k < m
    · have hkl : k < (words l).length := by rw [← HM.out]; exact hlt
      obtain ⟨b1, o1, rfl, _, _, f0⟩ := rd_u32 (HH.out.rdAt 0 rfl) hkl
      have HSt := Lib.hid (feedUpto_succ ⟨sa, sb, sc, sd⟩ l k hkl)
      have hbd := HB.out _ (List.getElem_mem hkl)
      generalize (words l)[k] = y at *
      obtain ⟨hb0, hb1⟩ := hbd
      generalize feedUpto ⟨sa, sb, sc, sd⟩ l k = q at *
      obtain ⟨qa, qb, qc, qd⟩ := q
      go_wp2_with (first | (refine shl_load1 HH.out rfl rfl rfl 2 rfl rfl (by decide +kernel) ?_) | (refine shl_store1 HH.out rfl rfl rfl rfl 2 rfl rfl rfl (by kernel_rfl) ?_; clear HH; intro wS HHS; have HH := Lib.hid HHS; clear HHS))
      go_roundw
      case rel => exact ⟨k + 1, by omega, by go_num, Lib.hid (by rw [HSt.out]; exact HH.out)⟩
      case measure => simp [intOf]; omega
    · have HFi := Lib.hid (feedUpto_all ⟨sa, sb, sc, sd⟩ l k (by rw [← HM.out]; omega))
      go_wp2_with (first | (refine shl_load HH.out sizeSu (by kernel_rfl) rfl rfl rfl 2 rfl rfl ?_) | (refine shl_store HH.out sizeSu rfl rfl rfl rfl 1 rfl rfl rfl rfl ?_; clear HH; intro wS HHS; have HH := Lib.hid HHS; clear HHS))
      refine ret_cell sizeSu (by kernel_rfl) HH.out rfl rfl 1 rfl rfl rfl ⟨?_, HH.out.ext⟩
      rw [HFi.out]
      rfl

set_option maxRecDepth 100000 in
set_option maxHeartbeats 4000000 in
theorem rfeed_any (w : World) (s : Su) (A : Option Addr) (n c : Nat) (l : List UInt8) (hn : n = l.length) (hr : Rd w 0 w.heap.size A (bytes l)) (hN : n ≤ 100000000000) :
    Calls Tryz.prog 109 #[.agg s.cells.toArray, .slice A n c] w fun e w' => e = .returned (.agg (feed s l).cells.toArray) ∧ Ext w w' := by
  have Hn := Lib.hid hn
  have HR := Lib.hid hr
  have HB := Lib.hid (words_bd l)
  have HN := Lib.hid (words_length l)
  obtain ⟨sa, sb, sc, sd⟩ := s
  have HF0 := Lib.hid (show feedUpto ⟨sa, sb, sc, sd⟩ l 0 = ⟨sa, sb, sc, sd⟩ from rfl)
  clear hn hr
  simp only [Su.cells]
  go_enter Tryz.func109, Tryz.ntmps109
  go_wp2_with fail
  generalize hwH : World.alloc (World.alloc w _) _ = w2; have HH := Lib.hid (Heap.two hwH); clear hwH
  refine (rwords_any w2 A n c l Hn.out (HR.out.at HH.out.ext (Nat.le_refl _)) hN).mono ?_
  rintro e w3 ⟨v3, rfl, hown, e3⟩
  obtain ⟨A3, c3, rfl, k1, k2, _⟩ := own_form hown
  have HH3 := Lib.hid ((HH.out.addRd e3 (Rd.of_own hown) (Nat.le_refl _)))
  clear HH hown e3
  have hml : (words l).length ≤ 100000000000 := by have := HN.out; have := Hn.out; omega
  obtain ⟨m, hm⟩ : ∃ m, m = (words l).length := ⟨_, rfl⟩
  rw [← hm] at hml ⊢
  have HM := Lib.hid hm
  clear hm k1 k2
  go_wp2_with fail
  go_loopw [6] (fun i wr => ∃ k : Nat, k ≤ m ∧ i = .int .i64 (k : Int) ∧ Hid (Heap w [.rd A3 (u32s (words l)), .box (w.heap.size + 1) [.int .u64 0, .int .u64 0, .int .u64 0, .int .u64 0], .box w.heap.size (feedUpto ⟨sa, sb, sc, sd⟩ l k).cells] wr)) (fun i _ => m - (intOf i).toNat)
  case atStart => exact ⟨0, Nat.zero_le _, rfl, HH3⟩
  case round =>
    clear HH3
    obtain ⟨k, hk, rfl, HH⟩ := hrel
    by_cases hlt : k < m
    · have hkl : k < (words l).length := by rw [← HM.out]; exact hlt
      obtain ⟨b1, o1, rfl, _, _, f0⟩ := rd_u32 (HH.out.rdAt 0 rfl) hkl
      have HSt := Lib.hid (feedUpto_succ ⟨sa, sb, sc, sd⟩ l k hkl)
      have hbd := HB.out _ (List.getElem_mem hkl)
      generalize (words l)[k] = y at *
      obtain ⟨hb0, hb1⟩ := hbd
      generalize feedUpto ⟨sa, sb, sc, sd⟩ l k = q at *
      obtain ⟨qa, qb, qc, qd⟩ := q
      go_wp2_with fail
      refine wp_region_held_drew (S := fun w' => w' = (wr).drew) (by kernel_rfl) rfl (fun hHeld => ?_)
      refine takeL 0 (v := ?_) rfl (by kernel_rfl) (by kernel_rfl) (by kernel_rfl) (fun _ _ _ h => h) (by kernel_rfl) ?_ (by assumption) ?_; rotate_left; (focus (intro w hSw; (try dsimp only at hSw); go_simp <;> with_reducible rfl)); (try simp only [Act.put, lyA, lyB, lyC])
      refine takeL 1 rfl (by kernel_rfl) (by kernel_rfl) (by kernel_rfl) (fun _ _ _ h => h) (by kernel_rfl) (fun wT hST => by rw [hST]; exact sh_run_load1 HH.out.drew rfl rfl 2 rfl rfl (by kernel_rfl)) (by assumption) ?_; (try simp only [Act.put, lyA, lyB, lyC])
      refine takeL 2 (v := ?_) rfl (by kernel_rfl) (by kernel_rfl) (by kernel_rfl) (fun _ _ _ h => h) (by kernel_rfl) ?_ (by assumption) ?_; rotate_left; (focus (intro w hSw; (try dsimp only at hSw); go_simp <;> with_reducible rfl)); (try simp only [Act.put, lyA, lyB, lyC])
      refine takeL 3 (v := ?_) rfl (by kernel_rfl) (by kernel_rfl) (by kernel_rfl) (fun _ _ _ h => h) (by kernel_rfl) ?_ (by assumption) ?_; rotate_left; (focus (intro w hSw; (try dsimp only at hSw); go_simp <;> with_reducible rfl)); (try simp only [Act.put, lyA, lyB, lyC])
      refine takeL 4 (v := ?_) rfl (by kernel_rfl) (by kernel_rfl) (by kernel_rfl) (fun _ _ _ h => h) (by kernel_rfl) ?_ (by assumption) ?_; rotate_left; (focus (intro w hSw; (try dsimp only at hSw); go_simp <;> with_reducible rfl)); (try simp only [Act.put, lyA, lyB, lyC])
      refine takeL 5 (v := ?_) rfl (by kernel_rfl) (by kernel_rfl) (by kernel_rfl) (fun _ _ _ h => h) (by kernel_rfl) ?_ (by assumption) ?_; rotate_left; (focus (intro w hSw; (try dsimp only at hSw); go_simp <;> with_reducible rfl)); (try simp only [Act.put, lyA, lyB, lyC])
      refine takeL 6 (v := ?_) rfl (by kernel_rfl) (by kernel_rfl) (by kernel_rfl) (fun _ _ _ h => h) (by kernel_rfl) ?_ (by assumption) ?_; rotate_left; (focus (intro w hSw; (try dsimp only at hSw); go_simp <;> with_reducible rfl)); (try simp only [Act.put, lyA, lyB, lyC])
      refine takeL 7 (v := ?_) rfl (by kernel_rfl) (by kernel_rfl) (by kernel_rfl) (fun _ _ _ h => h) (by kernel_rfl) ?_ (by assumption) ?_; rotate_left; (focus (intro w hSw; (try dsimp only at hSw); go_simp <;> with_reducible rfl)); (try simp only [Act.put, lyA, lyB, lyC])
      refine takeL 8 (v := ?_) rfl (by kernel_rfl) (by kernel_rfl) (by kernel_rfl) (fun _ _ _ h => h) (by kernel_rfl) ?_ (by assumption) ?_; rotate_left; (focus (intro w hSw; (try dsimp only at hSw); go_simp <;> with_reducible rfl)); (try simp only [Act.put, lyA, lyB, lyC])
      refine wpAnyH_done (by kernel_rfl) ?_ _
      have HH2 := Lib.hid HH.out.drew
      clear HH
      have HH := HH2
      clear HH2
      go_wp2_with (first | (refine shl_load1 HH.out rfl rfl rfl 2 rfl rfl (by decide +kernel) ?_) | (refine shl_load HH.out sizeSu (by kernel_rfl) rfl rfl rfl 2 rfl rfl ?_) | (refine shl_store HH.out sizeSu rfl rfl rfl rfl 2 rfl rfl rfl rfl ?_; clear HH; intro wS HHS; have HH := Lib.hid HHS; clear HHS))
      go_roundw
      case rel => exact ⟨k + 1, by omega, by go_num, Lib.hid (by rw [HSt.out]; exact HH.out)⟩
      case measure => simp [intOf]; omega
    · have HFi := Lib.hid (feedUpto_all ⟨sa, sb, sc, sd⟩ l k (by rw [← HM.out]; omega))
      go_wp2_with (first | (refine shl_load HH.out sizeSu (by kernel_rfl) rfl rfl rfl 2 rfl rfl ?_) | (refine shl_store HH.out sizeSu rfl rfl rfl rfl 1 rfl rfl rfl rfl ?_; clear HH; intro wS HHS; have HH := Lib.hid HHS; clear HHS))
      refine ret_cell sizeSu (by kernel_rfl) HH.out rfl rfl 1 rfl rfl rfl ⟨?_, HH.out.ext⟩
      rw [HFi.out]
      rfl
end Go.Proofs.YtfongpdeflfioaaGreat
