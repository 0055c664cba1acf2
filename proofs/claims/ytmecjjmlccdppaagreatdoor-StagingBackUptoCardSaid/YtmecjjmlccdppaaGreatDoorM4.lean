/- The texts Fld, Cat, Words, Fwords in one file. -/
import Derived.Test.YtmecjjmlccdppaaGreatDoorM3
import Derived.Lib.AppendStr
import Derived.Test.YtmecjjmlccdppaaGreatDoorM2
import Derived.Lib.AppendZeros
import Derived.Deep.Cut
import Derived.Laws.IdiomCopy
/- The walks of fields.Number, fields.Numbers, fields.Write. -/
namespace Go.Proofs.YtmecjjmlccdppaaGreatDoor
open Go.RowKit

def fE (s : ByteArray) : Int := if s.size < 8 then 8 else if 8 < s.size then 5 else numE s.data.toList
def fV (s : ByteArray) : Int := if s.size < 8 then 0 else if 8 < s.size then 0 else numV s.data.toList

set_option maxRecDepth 100000 in
set_option maxHeartbeats 400000 in
theorem fnumber_any (s : ByteArray) (w : World) (hm : s.size ≤ 9223372036854775807) :
    Calls Tryz.prog 132 #[.string s] w fun e w' => e = .returned (.tuple #[.int .i64 (fV s), .int .i64 (fE s)]) ∧ Ext w w' := by
  by_cases h0 : s.size < 8
  · have hv : Hid (fV s = 0 ∧ fE s = 8) := by rw [fV, fE, if_pos h0, if_pos h0]; exact ⟨rfl, rfl⟩
    go_enter Tryz.func132, Tryz.ntmps132
    go_wp2_with fail
    go_ret2
    exact ⟨by rw [hv.out.1, hv.out.2]; rfl, Ext.refl _⟩
  · by_cases h8 : 8 < s.size
    · have hv : Hid (fV s = 0 ∧ fE s = 5) := by rw [fV, fE, if_neg h0, if_neg h0, if_pos h8, if_pos h8]; exact ⟨rfl, rfl⟩
      go_enter Tryz.func132, Tryz.ntmps132
      go_wp2_with fail
      go_ret2
      exact ⟨by rw [hv.out.1, hv.out.2]; rfl, Ext.refl _⟩
    · have hv : Hid (fV s = numV s.data.toList ∧ fE s = numE s.data.toList) := by rw [fV, fE, if_neg h0, if_neg h0, if_neg h8, if_neg h8]; exact ⟨rfl, rfl⟩
      have hcv := fun W => run_bytes_of_string (P := Tryz.prog) W 9 57 5 s Tryz.underlying9 Tryz.underlying57 Tryz.underlying5
      have hrd := rd_bytesRow w s (grownCap w s.size 0 5) 5 ((bytesRow s (grownCap w s.size 0 5)).size, (bytesRow s (grownCap w s.size 0 5)).size + 1)
      have HR := Lib.hid hrd
      clear hrd
      go_enter Tryz.func132, Tryz.ntmps132
      go_wp2_with fail
      clear hcv
      refine (number_any _ _ s.size _ _ _ s.data.toList (by rw [len_data]) hm HR.out.drew (by simp)).mono ?_
      rintro e w2 ⟨rfl, e2⟩
      go_wp2_with fail
      go_ret2
      exact ⟨by rw [hv.out.1, hv.out.2]; rfl, by (repeat (first | exact Below.refl _ _ | exact Ext.refl _ | assumption | refine Below.drew ?_ | refine below_drewN ?_ _ | refine below_alloc ?_ (by first | exact Nat.le_refl _ | assumption | (simp; done) | omega | (simp; omega)) _ | refine below_ext ?_ (by assumption) (by first | exact Nat.le_refl _ | assumption | (simp; done) | omega | (simp; omega)) | refine Ext.drew ?_ | refine Ext.drewN ?_ _ | refine Ext.alloc ?_ _ | refine Ext.setCell ?_ (by first | assumption | (simp; done) | (simp; omega)) _ | refine Below.setCell ?_ (by first | assumption | (simp; done) | (simp; omega)) _ | refine Ext.trans ?_ (by assumption)))⟩

theorem info9 : (Tryz.prog.info? 9).map (fun i => (i.zero, i.size, i.bytes)) = some (some (.string .empty), 1, 16) := by kernel_rfl
/-- a number as a text of eight octets -/
def num8 (z : Int) : ByteArray := ⟨(puts z 8).toArray⟩
def ints (zs : List Int) : List Value := zs.map (Value.int .i64)
theorem rd_int {w : World} {lo hi : Nat} {A : Option Addr} {l : List Int} (h : Rd w lo hi A (ints l)) {k : Nat} (hk : k < l.length) :
    ∃ b o, A = some ⟨b, o, none⟩ ∧ lo ≤ b ∧ b < hi ∧ w.cell? ⟨b, o + k, none⟩ = some (.int .i64 l[k]) := by
  obtain ⟨b, o, h1, h2, h3, h4⟩ := h (fun e => by have : (ints l).length = l.length := by simp [ints]
                                                  rw [e] at this; simp at this; omega)
  exact ⟨b, o, h1, h2, h3, h4 k _ (by rw [ints, List.getElem?_map, List.getElem?_eq_getElem hk]; rfl)⟩
def num8s (zs : List Int) : List Value := zs.map fun z => .string (num8 z)
theorem num8s_snoc (xs : List Int) (k : Nat) (hk : k < xs.length) : num8s (xs.take (k + 1)) = num8s (xs.take k) ++ [.string (num8 xs[k])] := by
  rw [List.take_succ_eq_append_getElem hk, num8s, num8s, List.map_append]
  rfl

set_option maxRecDepth 100000 in
set_option maxHeartbeats 1000000 in
theorem numbers_any (w : World) (A : Option Addr) (n c : Nat) (zs : List Int) (hn : n = zs.length) (hr : Rd w 0 w.heap.size A (ints zs)) (hb : n * 16 ≤ 140737488355328) (hwf : ∀ z ∈ zs, -9223372036854775808 ≤ z ∧ z ≤ 9223372036854775807) :
    Calls Tryz.prog 100 #[.slice A n c] w fun e w' => ∃ v, e = .returned v ∧ w'.ownsRow w.heap.size 9 1 v n (num8s zs) ∧ Ext w w' := by
  obtain ⟨i0, hi0, hz0, hz1, hz2⟩ := info_parts info9
  have Hn := Lib.hid hn
  have HW := Lib.hid hwf
  clear hn hwf
  go_enter Tryz.func100, Tryz.ntmps100
  go_wp2_with fail
  go_loopw [3, 8] (fun v i wr => ∃ k : Nat, k ≤ n ∧ i = .int .i64 k ∧ wr.ownsRow w.heap.size 9 1 v k (num8s (zs.take k)) ∧ Ext w wr) (fun _ i _ => n - (intOf i).toNat)
  case atStart => exact ⟨0, Nat.zero_le _, rfl, World.ownsRow_nil _ _ _ _, Ext.refl _⟩
  case round =>
    obtain ⟨k, hk, rfl, hown, e3⟩ := hrel
    by_cases hlt : k < n
    · obtain ⟨b1, o1, rfl, _, _, f0⟩ := rd_int (hr.at (w' := wr) (by (repeat (first | exact Below.refl _ _ | exact Ext.refl _ | assumption | refine Below.drew ?_ | refine below_drewN ?_ _ | refine below_alloc ?_ (by first | exact Nat.le_refl _ | assumption | (simp; done) | omega | (simp; omega)) _ | refine below_ext ?_ (by assumption) (by first | exact Nat.le_refl _ | assumption | (simp; done) | omega | (simp; omega)) | refine Ext.drew ?_ | refine Ext.drewN ?_ _ | refine Ext.alloc ?_ _ | refine Ext.setCell ?_ (by first | assumption | (simp; done) | (simp; omega)) _ | refine Below.setCell ?_ (by first | assumption | (simp; done) | (simp; omega)) _ | refine Ext.trans ?_ (by assumption)))) (Nat.le_refl _)) (k := k) (by rw [← Hn.out]; omega)
      have hy := HW.out zs[k] (List.getElem_mem _)
      have htx := Lib.hid (num8s_snoc zs k (by rw [← Hn.out]; omega))
      generalize zs[k]'(by rw [← Hn.out]; omega) = y at *
      go_wp2_with fail
      clear f0
      refine (put_any y _ 8 (Nat.le_refl _) rfl wr hy.1 hy.2).mono ?_
      rintro e w2 ⟨v2, rfl, hown2, e2⟩
      obtain ⟨A2, c2, rfl, _, _, _⟩ := own_form hown2
      have hcv : (convert 57 9 (.slice A2 8 c2)).run Tryz.prog w2 = .ok (.string (num8 y)) w2 := run_conv_str w2 _ _ 5 Tryz.underlying57 Tryz.underlying5 Tryz.underlying9 _ _ A2 8 c2 (puts y 8) (puts_length _ _).symm (Rd.of_own hown2)
      have own2 := own_ext hown e2
      have e4 : Ext w w2 := by (repeat (first | exact Below.refl _ _ | exact Ext.refl _ | assumption | refine Below.drew ?_ | refine below_drewN ?_ _ | refine below_alloc ?_ (by first | exact Nat.le_refl _ | assumption | (simp; done) | omega | (simp; omega)) _ | refine below_ext ?_ (by assumption) (by first | exact Nat.le_refl _ | assumption | (simp; done) | omega | (simp; omega)) | refine Ext.drew ?_ | refine Ext.drewN ?_ _ | refine Ext.alloc ?_ _ | refine Ext.setCell ?_ (by first | assumption | (simp; done) | (simp; omega)) _ | refine Below.setCell ?_ (by first | assumption | (simp; done) | (simp; omega)) _ | refine Ext.trans ?_ (by assumption)))
      clear hown e2 e3 hown2
      go_wp2_with
        (at_builtin
         refine list_app _ rfl (.tmp 12) (.tmp 16) _ rfl 9 i0 _ 1 16 Tryz.underlying48 hi0 hz0 hz1 hz2 rfl (by omega) _ _ k _ rfl (own2.alloc _) 0 _ _ 1 1 [.string (num8 y)] rfl rfl
           ((rd_new _ _ _).more (Nat.zero_le _) (Nat.le_refl _)) (by simp [Value.oneCell']) (by simp only [maxLen]; omega) (by omega) (by have := e4.size; simp; omega) ?_
         intro v3 w3 hown3 he3 _ _
         have e5 : Ext w w3 := he3 _ (e4.alloc _) (Nat.le_refl _)
         clear he3 own2 e4)
      go_roundw
      case rel => exact ⟨k + 1, by omega, by go_num, by rw [htx.out]; exact hown3, e5⟩
      case measure => simp [intOf]; omega
    · go_wp2_with fail
      obtain rfl : k = n := by omega
      go_ret
      exact ⟨_, rfl, by rw [List.take_of_length_le (by rw [← Hn.out]; exact Nat.le_refl _)] at hown; exact hown, e3⟩
end Go.Proofs.YtmecjjmlccdppaaGreatDoor
/- octets.Join: slices.Concat over rows of octets, slices.Grow of nothing. -/
namespace Go.Proofs.YtmecjjmlccdppaaGreatDoor
open Go.RowKit
set_option linter.unusedVariables false
set_option linter.unusedSimpArgs false

/-- a row of octets by its value -/
structure Sb where
  A : Option Addr
  n : Nat
  c : Nat
  l : List UInt8
def Sb.val (x : Sb) : Value := .slice x.A x.n x.c
def sbs (xs : List Sb) : List Value := xs.map Sb.val
def Sb.ok (w : World) (x : Sb) : Prop := x.n = x.l.length ∧ Rd w 0 w.heap.size x.A (bytes x.l)
theorem Sb.ok.ext {w w' : World} {x : Sb} (h : x.ok w) (e : Ext w w') : x.ok w' := ⟨h.1, Rd.at h.2 e (Nat.le_refl _)⟩
def catL (xs : List Sb) : List UInt8 := xs.flatMap Sb.l
theorem catL_upto (xs : List Sb) (k : Nat) (h : k < xs.length) : catL (xs.take (k + 1)) = catL (xs.take k) ++ xs[k].l := by
  rw [List.take_succ_eq_append_getElem h, catL, List.flatMap_append]; simp [catL]
theorem catL_le (xs : List Sb) (k : Nat) : (catL (xs.take k)).length ≤ (catL xs).length := by
  have : catL xs = catL (xs.take k) ++ catL (xs.drop k) := by rw [catL, catL, catL, ← List.flatMap_append, List.take_append_drop]
  rw [this, List.length_append]; omega
theorem sbs_at {w : World} {lo h : Nat} {A : Option Addr} {xs : List Sb} (hr : Rd w lo h A (sbs xs)) {k : Nat} (hk : k < xs.length) :
    ∃ b o, A = some ⟨b, o, none⟩ ∧ w.cell? ⟨b, o + k, none⟩ = some (.slice xs[k].A xs[k].n xs[k].c) := by
  obtain ⟨b, o, h1, h2, h3, h4⟩ := hr (fun e => by have : (sbs xs).length = xs.length := by simp [sbs]
                                                   rw [e] at this; simp at this; omega)
  exact ⟨b, o, h1, h4 k _ (by simp [sbs, List.getElem?_eq_getElem hk, Sb.val])⟩

set_option maxRecDepth 100000 in
set_option maxHeartbeats 2000000 in
theorem grow0_any (w : World) (m : Nat) (hm : m ≤ 100000000000) :
    Calls Tryz.prog 123 #[.slice none 0 0, .int .i64 m] w fun e w' => ∃ v, e = .returned v ∧ w'.ownsRow w.heap.size 5 1 v 0 [] ∧ Ext w w' := by
  obtain ⟨i0, hi0, hz0, hz1, hz2⟩ := info_parts info5
  rcases Nat.eq_zero_or_pos m with h0 | h0
  · subst h0
    rw [show ((0 : Nat) : Int) = 0 from rfl]
    go_enter Tryz.func123, Tryz.ntmps123
    go_wp2_with fail
    go_ret
    exact ⟨_, rfl, World.ownsRow_nil _ _ _ _, Ext.refl _⟩
  · have hrun : ∀ ty, (Builtin.append_ #[57, 3] ty #[.slice none 0 0, .int .i64 (m : Int)]).run Tryz.prog w = _ := fun ty =>
      Lib.run_append_nil_zeros (P := Tryz.prog) w 57 3 ty 5 i0 _ .i64 .i64 Tryz.underlying57 Tryz.underlying3 hi0 hz0 m h0 (by rw [hz1]; omega) (by omega) (by rw [hz2]; omega)
    have hG1 : m ≤ grownCap w m 0 5 := grownCap_ge w _ _ _
    have hG2 : grownCap w m 0 5 ≤ maxLen := grownCap_le_maxLen w m 0 5 (by simp only [maxLen]; omega)
    generalize grownCap w m 0 5 = G at *
    obtain ⟨ROW, hROW⟩ : ∃ ROW : Array Value, ROW = Builtin.zeroCells (Value.int .u8 0).cells m ++ Builtin.zeroCells (Value.int .u8 0).cells (G - m) := ⟨_, rfl⟩
    rw [← hROW] at hrun
    have hsz : ROW.size = G := by
      rw [hROW]
      simp only [Builtin.zeroCells, Array.size_append, Array.size_map, Array.size_range, Value.cells, List.size_toArray, List.length_cons, List.length_nil]
      omega
    obtain ⟨w1, hw1⟩ : ∃ w1, w1 = w.drew.alloc (.cells ROW 5) := ⟨_, rfl⟩
    rw [← hw1] at hrun
    have hown : w1.ownsRow w.heap.size 5 1 (.slice (some ⟨w.heap.size, 0, none⟩) 0 G) 0 [] := by
      rw [hw1]
      exact ⟨rfl, .inr ⟨w.heap.size, G, ROW, rfl, Nat.le_refl _, heap_alloc_new w.drew _, Nat.zero_le _, hG2, by omega, by simp⟩⟩
    have e1 : Ext w w1 := by rw [hw1]; exact ((Ext.refl w).drew).alloc _
    have HOwn := Lib.hid hown
    have HRun := Lib.hid hrun
    have hmp : (0 : Int) < m := by omega
    simp only [maxLen] at hG2
    clear hw1 hROW hsz hrun hown
    go_enter Tryz.func123, Tryz.ntmps123
    go_wp2_with (at_builtin; refine Lib.wpList_append_run _ rfl (.tmp 20) (.tmp 21) _ _ rfl _ _ rfl rfl _ _ (HRun.out _) ?_)
    go_ret
    exact ⟨_, rfl, HOwn.out, e1⟩

set_option maxRecDepth 100000 in
set_option maxHeartbeats 4000000 in
theorem concat_any (w : World) (A : Option Addr) (n c : Nat) (xs : List Sb) (hn : n = xs.length) (hr : Rd w 0 w.heap.size A (sbs xs)) (hok : ∀ x ∈ xs, x.ok w) (hN : n ≤ 100000000000) (hT : (catL xs).length ≤ 100000000000) :
    Calls Tryz.prog 103 #[.slice A n c] w fun e w' => ∃ v, e = .returned v ∧ w'.ownsRow w.heap.size 5 1 v (catL xs).length (bytes (catL xs)) ∧ Ext w w' := by
  obtain ⟨i0, hi0, hz0, hz1, hz2⟩ := info_parts info5
  have Hn := Lib.hid hn
  have HR := Lib.hid hr
  have HO := Lib.hid hok
  have HT := Lib.hid hT
  clear hn hr hok
  go_enter Tryz.func103, Tryz.ntmps103
  go_wp2_with fail
  go_loop [3, 11] (fun s i => ∃ k : Nat, k ≤ n ∧ i = .int .i64 (k : Int) ∧ s = .int .i64 ((catL (xs.take k)).length : Int)) (fun _ i => n - (intOf i).toNat)
  case atStart => exact ⟨0, Nat.zero_le _, rfl, rfl⟩
  case round =>
    obtain ⟨k, hk, rfl, rfl⟩ := hrel
    have hle := catL_le xs k
    by_cases hlt : k < n
    · have hl : k < xs.length := by rw [← Hn.out]; exact hlt
      obtain ⟨b1, o1, rfl, f0⟩ := sbs_at HR.out hl
      have HU := Lib.hid (catL_upto xs k hl)
      have hle2 := catL_le xs (k + 1)
      have hx := (HO.out _ (List.getElem_mem hl)).1
      have hlen : (catL (xs.take (k + 1))).length = (catL (xs.take k)).length + xs[k].n := by rw [catL_upto xs k hl, List.length_append, hx]
      generalize xs[k].A = xA at *
      generalize xs[k].c = xc at *
      generalize xs[k].n = xn at *
      generalize (catL (xs.take k)).length = q at *
      have HL := Lib.hid hlen
      have hq : q + xn ≤ 100000000000 := by have := HT.out; omega
      clear hx hlen hle hle2
      go_wp2_with fail
      go_round
      case rel => exact ⟨k + 1, by omega, by go_num, by rw [HL.out]; go_num⟩
      case measure => simp [intOf]; omega
    · obtain rfl : k = n := by omega
      have hall : (catL (xs.take k)).length = (catL xs).length := by rw [List.take_of_length_le (by rw [← Hn.out]; exact Nat.le_refl _)]
      rw [hall]
      clear hall hle hlt
      generalize hm : (catL xs).length = m at *
      have HM := Lib.hid hm
      clear hm
      go_wp2_with fail
      refine (grow0_any w m hT).mono ?_
      rintro e w2 ⟨v2, rfl, hown2, e2⟩
      have HOwn2 := Lib.hid hown2
      clear hown2
      go_wp2_with fail
      go_loopw [6, 27] (fun v i wr => ∃ j : Nat, j ≤ k ∧ i = .int .i64 (j : Int) ∧ Hid (wr.ownsRow w.heap.size 5 1 v (catL (xs.take j)).length (bytes (catL (xs.take j)))) ∧ Ext w wr) (fun _ i _ => k - (intOf i).toNat)
      case atStart => exact ⟨0, Nat.zero_le _, rfl, HOwn2, e2⟩
      case round =>
        clear HOwn2 e2
        obtain ⟨j, hj, rfl, hown, e1⟩ := hrel
        by_cases hlt : j < k
        · have hl : j < xs.length := by rw [← Hn.out]; exact hlt
          obtain ⟨b1, o1, rfl, f0⟩ := sbs_at (HR.out.at e1 (Nat.le_refl _)) hl
          have HU := Lib.hid (catL_upto xs j hl)
          have hle2 := catL_le xs (j + 1)
          have hx := HO.out _ (List.getElem_mem hl)
          have hlen : (catL (xs.take (j + 1))).length = (catL (xs.take j)).length + xs[j].n := by rw [catL_upto xs j hl, List.length_append, hx.1]
          have HX := Lib.hid hx
          have HL := Lib.hid hlen
          have hq : (catL (xs.take j)).length + xs[j].n ≤ 100000000000 := by have := HM.out; omega
          clear hx hlen hle2
          generalize xs[j] = x at *
          obtain ⟨xA, xn, xc, xl⟩ := x
          dsimp only at f0 HU HX HL hq
          go_wp2_with
            (at_builtin
             refine list_app _ rfl (.tmp 31) (.tmp 32) _ rfl 5 i0 _ 1 1 Tryz.underlying57 hi0 hz0 hz1 hz2 rfl (by omega) w.heap.size _ _ _ rfl hown.out 0 _ xA xn xc (bytes xl) rfl (by rw [bytes_length, Nat.mul_one]; exact HX.out.1.symm) (Rd.at HX.out.2 e1 (Nat.le_refl _)) (bytes_one _) (by simp only [maxLen]; omega) (by omega) e1.size ?_
             intro v3 w3 hown3 he3 _ _
             have e3 : Ext w w3 := he3 _ e1 (Nat.le_refl _)
             have HOwn3 := Lib.hid hown3
             clear he3 hown3)
          go_roundw
          case rel => exact ⟨j + 1, by omega, by go_num, Lib.hid (by rw [HL.out, HU.out, bytes_append]; exact HOwn3.out), e3⟩
          case measure => simp [intOf]; omega
        · obtain rfl : j = k := by omega
          have hall : catL (xs.take j) = catL xs := by rw [List.take_of_length_le (by rw [← Hn.out]; exact Nat.le_refl _)]
          have HAll := Lib.hid hall
          clear hall
          go_wp2_with fail
          go_ret
          refine ⟨_, rfl, ?_, e1⟩
          have := hown.out
          rw [HAll.out] at this
          rw [HM.out] at this
          rw [HM.out]
          exact this
theorem join_any (w : World) (A : Option Addr) (n c : Nat) (xs : List Sb) (hn : n = xs.length) (hr : Rd w 0 w.heap.size A (sbs xs)) (hok : ∀ x ∈ xs, x.ok w) (hN : n ≤ 100000000000) (hT : (catL xs).length ≤ 100000000000) :
    Calls Tryz.prog 71 #[.slice A n c] w fun e w' => ∃ v, e = .returned v ∧ w'.ownsRow w.heap.size 5 1 v (catL xs).length (bytes (catL xs)) ∧ Ext w w' := by
  have HC := Lib.hid (concat_any w A n c xs hn hr hok hN hT)
  clear hn hr hok hT
  go_enter Tryz.func71, Tryz.ntmps71
  go_wp2_with fail
  refine HC.out.mono ?_
  rintro e w2 ⟨v2, rfl, hown2, e2⟩
  have H := Lib.hid hown2
  clear hown2
  go_wp2_with fail
  go_ret
  exact ⟨_, rfl, H.out, e2⟩
end Go.Proofs.YtmecjjmlccdppaaGreatDoor
/- Words of octets: the plain law; the reference's Words. -/
namespace Go.Proofs.YtmecjjmlccdppaaGreatDoor
open Go.RowKit
set_option linter.unusedVariables false
set_option linter.unusedSimpArgs false

/-- octet j, 0 behind the end -/
def oc (l : List UInt8) (j : Nat) : Int := ((l[j]?.map UInt8.toNat).getD 0 : Nat)
theorem oc_at (l : List UInt8) (j : Nat) (h : j < l.length) : oc l j = (l[j].toNat : Int) := by simp [oc, h]
theorem oc_out (l : List UInt8) (j : Nat) (h : l.length ≤ j) : oc l j = 0 := by simp [oc, h]
theorem oc_bd (l : List UInt8) (j : Nat) : 0 ≤ oc l j ∧ oc l j ≤ 255 := by
  rcases Nat.lt_or_ge j l.length with h | h
  · rw [oc_at l j h]
    have := l[j].toNat_lt
    omega
  · rw [oc_out l j h]; omega
/-- m octets from i on as a number -/
def part (l : List UInt8) (i : Nat) : Nat → Int
  | 0 => 0
  | m + 1 => part l i m * 256 + oc l (i + m)
theorem part_bd (l : List UInt8) (i : Nat) : ∀ m, 0 ≤ part l i m ∧ part l i m < 256 ^ m
  | 0 => by simp [part]
  | m + 1 => by
    have := part_bd l i m
    have := oc_bd l (i + m)
    rw [part, Int.pow_succ]
    omega
def word (l : List UInt8) (i : Nat) : Int := part l i 4
theorem word_bd (l : List UInt8) (i : Nat) : 0 ≤ word l i ∧ word l i ≤ 4294967295 := by
  have := part_bd l i 4
  rw [word]
  omega
def words (l : List UInt8) : List Int := (List.range ((l.length + 3) / 4)).map fun k => word l (4 * k)
def wordsUpto (l : List UInt8) (k : Nat) : List Int := (List.range k).map fun k => word l (4 * k)
theorem words_upto (l : List UInt8) (k : Nat) : wordsUpto l (k + 1) = wordsUpto l k ++ [word l (4 * k)] := by simp [wordsUpto, List.range_succ]
def u32s (xs : List Int) : List Value := xs.map fun x => .int .u32 x
theorem u32s_append (a b : List Int) : u32s (a ++ b) = u32s a ++ u32s b := by simp [u32s]
theorem u32s_length (a : List Int) : (u32s a).length = a.length := by simp [u32s]
theorem words_length (l : List UInt8) : (words l).length = (l.length + 3) / 4 := by simp [words]
theorem words_bd (l : List UInt8) : ∀ x ∈ words l, 0 ≤ x ∧ x ≤ 4294967295 := by
  intro x hx
  simp only [words, List.mem_map] at hx
  obtain ⟨k, _, rfl⟩ := hx
  exact word_bd l _
theorem infoU : (Tryz.prog.info? 127).map (fun i => (i.zero, i.size, i.bytes)) = some (some (.int .u32 0), 1, 4) := by kernel_rfl

set_option maxRecDepth 100000 in
set_option maxHeartbeats 2000000 in
theorem rwords_any (w : World) (A : Option Addr) (n c : Nat) (l : List UInt8) (hn : n = l.length) (hr : Rd w 0 w.heap.size A (bytes l)) (hN : n ≤ 100000000000) :
    Calls Tryz.prog 68 #[.slice A n c] w fun e w' => ∃ v, e = .returned v ∧ w'.ownsRow w.heap.size 127 1 v (words l).length (u32s (words l)) ∧ Ext w w' := by
  obtain ⟨i0, hi0, hz0, hz1, hz2⟩ := info_parts infoU
  have Hn := Lib.hid hn
  have HR := Lib.hid hr
  clear hn hr
  go_enter Tryz.func68, Tryz.ntmps68
  go_wp2_with fail
  go_loopw [3, 4] (fun v i wr => ∃ k : Nat, 4 * k ≤ n + 3 ∧ i = .int .i64 (4 * (k : Int)) ∧ Hid (wr.ownsRow w.heap.size 127 1 v k (u32s (wordsUpto l k))) ∧ Ext w wr) (fun _ i _ => (n + 4 - (intOf i).toNat))
  case atStart => exact ⟨0, by omega, rfl, Lib.hid (World.ownsRow_nil _ _ _ _), Ext.refl _⟩
  case round =>
    obtain ⟨k, hk, rfl, hown, e1⟩ := hrel
    by_cases hlt : 4 * k < n
    · go_wp2_with fail
      go_loop [5, 6] (fun x j => ∃ m : Nat, m ≤ 4 ∧ j = .int .i64 (4 * (k : Int) + m) ∧ x = .int .u32 (part l (4 * k) m)) (fun _ j => (4 * k + 4 - (intOf j).toNat))
      case atStart => exact ⟨0, by omega, by simp, rfl⟩
      case round =>
        obtain ⟨m, hm, rfl, rfl⟩ := hrel
        by_cases hm4 : m < 4
        · have hp := part_bd l (4 * k) m
          have hp2 : part l (4 * k) m < 16777216 := by
            have h3 : (256 : Int) ^ m ≤ 256 ^ 3 := by
              rcases (show m = 0 ∨ m = 1 ∨ m = 2 ∨ m = 3 by omega) with rfl | rfl | rfl | rfl <;> decide
            have : (256 : Int) ^ 3 = 16777216 := by decide
            omega
          have HP := Lib.hid (show part l (4 * k) (m + 1) = part l (4 * k) m * 256 + oc l (4 * k + m) from rfl)
          have hp0 := hp.1
          clear hp
          by_cases hb : 4 * k + m < n
          · have hbl : 4 * k + m < l.length := by rw [← Hn.out]; exact hb
            obtain ⟨b1, o1, rfl, _, _, f0⟩ := rd_byte (HR.out.ext e1 (Nat.le_refl _)) hbl
            have HO := Lib.hid (oc_at l _ hbl)
            have h255 := l[4 * k + m].toNat_lt
            generalize l[4 * k + m].toNat = y at *
            generalize part l (4 * k) m = q at *
            go_wp2_with fail
            go_round
            case rel => exact ⟨m + 1, by omega, by go_num, by rw [HP.out, HO.out]⟩
            case measure => simp [intOf]; omega
          · have HO := Lib.hid (oc_out l (4 * k + m) (by rw [← Hn.out]; omega))
            generalize part l (4 * k) m = q at *
            go_wp2_with fail
            go_round
            case rel => exact ⟨m + 1, by omega, by go_num, by rw [HP.out, HO.out, Int.add_zero]⟩
            case measure => simp [intOf]; omega
        · obtain rfl : m = 4 := by omega
          have hwd := word_bd l (4 * k)
          have HWd := Lib.hid (show part l (4 * k) 4 = word l (4 * k) from rfl)
          rw [HWd.out]
          have HUp := Lib.hid (words_upto l k)
          generalize word l (4 * k) = q at *
          obtain ⟨h0, h1⟩ := hwd
          have HOwn := Lib.hid hown.out
          clear hown
          go_wp2_with
            (at_builtin
             refine list_app _ rfl (.tmp 33) (.tmp 35) _ rfl 127 i0 _ 1 4 Tryz.underlying125 hi0 hz0 hz1 hz2 rfl (by omega) w.heap.size _ k _ rfl (own_ext HOwn.out ((Ext.refl _).alloc _)) 0 _ _ 1 1 [.int .u32 q] rfl rfl
               ((rd_new _ _ _).more (Nat.zero_le _) (Nat.le_refl _)) (by simp [Value.oneCell']) (by simp only [maxLen]; omega) (by omega) (by have := e1.size; simp; omega) ?_
             intro v2 w2 hown2 he2 _ _
             have e3 : Ext w w2 := he2 _ (e1.alloc _) (Nat.le_refl _)
             have HOwn2 := Lib.hid hown2
             clear he2 hown2)
          go_roundw
          case rel => exact ⟨k + 1, by omega, by go_num, Lib.hid (by rw [HUp.out, u32s_append]; exact HOwn2.out), e3⟩
          case measure => simp [intOf]; omega
    · have HL := Lib.hid (show (words l).length = k by rw [words_length, ← Hn.out]; omega)
      have HW := Lib.hid (show words l = wordsUpto l k by rw [words, wordsUpto, ← words_length, HL.out])
      go_wp2_with fail
      go_ret
      exact ⟨_, rfl, by rw [HL.out, HW.out]; exact hown.out, e1⟩
end Go.Proofs.YtmecjjmlccdppaaGreatDoor
/- fletch.Words: the walk. -/
namespace Go.Proofs.YtmecjjmlccdppaaGreatDoor
open Go.RowKit
set_option linter.unusedVariables false
set_option linter.unusedSimpArgs false

theorem word_eq (l : List UInt8) (i : Nat) : word l i = oc l i * 16777216 + oc l (i + 1) * 65536 + oc l (i + 2) * 256 + oc l (i + 3) := by
  simp only [word, part, Nat.add_zero]
  omega
/-- the four octets from i on, zeros behind the end: as cells -/
def four (l : List UInt8) (i : Nat) : List Value := [.int .u8 (oc l i), .int .u8 (oc l (i + 1)), .int .u8 (oc l (i + 2)), .int .u8 (oc l (i + 3))]
theorem four_at (l : List UInt8) (i : Nat) (h : i < l.length) :
    bytes ((l.drop i).take 4) ++ ([.int .u8 0, .int .u8 0, .int .u8 0, .int .u8 0] : List Value).drop (bytes ((l.drop i).take 4)).length = four l i := by
  rw [bytes_length, List.length_take, List.length_drop]
  obtain ⟨d, hd⟩ : ∃ d, l.drop i = d := ⟨_, rfl⟩
  have hdl : d.length = l.length - i := by rw [← hd, List.length_drop]
  have hg : ∀ j, d[j]? = l[i + j]? := fun j => by rw [← hd, List.getElem?_drop]
  have ho : ∀ j, oc l (i + j) = ((d[j]?.map UInt8.toNat).getD 0 : Nat) := fun j => by rw [oc, hg]
  have h0 := ho 0
  rw [Nat.add_zero] at h0
  rw [hd, four, h0, ho 1, ho 2, ho 3, show l.length - i = d.length from hdl.symm]
  match d with
  | [] => simp at hdl; omega
  | [a] => rfl
  | [a, b] => rfl
  | [a, b, c] => rfl
  | a :: b :: c :: e :: r =>
    have : min 4 (a :: b :: c :: e :: r).length = 4 := by simp
    rw [this]
    rfl
theorem or_i (m : Nat) (a b M : Int) (hM : M = 2 ^ m) (ha : 0 ≤ a) (hb : 0 ≤ b) (hb2 : b < M) (h : a * M + b < 4294967296) : bits BinOp.or IntKind.u32 (a * M) b = a * M + b := by
  obtain ⟨a, rfl⟩ := Int.eq_ofNat_of_zero_le ha
  obtain ⟨b, rfl⟩ := Int.eq_ofNat_of_zero_le hb
  have hM' : M = ((2 ^ m : Nat) : Int) := by rw [hM, Int.natCast_pow]; rfl
  subst hM'
  have hb3 : b < 2 ^ m := by omega
  have h4 : a * 2 ^ m + b < 4294967296 := by rw [← Int.natCast_mul] at h; omega
  have h1 : (BitVec.ofInt 32 (((a * 2 ^ m : Nat) : Int))).toNat = a * 2 ^ m := by
    rw [BitVec.ofInt_natCast, BitVec.toNat_ofNat]; exact Nat.mod_eq_of_lt (by omega)
  have h2 : (BitVec.ofInt 32 (b : Int)).toNat = b := by
    rw [BitVec.ofInt_natCast, BitVec.toNat_ofNat]; exact Nat.mod_eq_of_lt (by omega)
  have h5 : a * 2 ^ m ||| b = a * 2 ^ m + b := by
    rw [Nat.mul_comm]; exact (Nat.two_pow_add_eq_or_of_lt hb3 a).symm
  show IntKind.u32.wrap ((BitVec.ofInt 32 ((a : Int) * ((2 ^ m : Nat) : Int)) ||| BitVec.ofInt 32 (b : Int)).toNat : Int) = _
  rw [show (a : Int) * ((2 ^ m : Nat) : Int) = ((a * 2 ^ m : Nat) : Int) by rw [Int.natCast_mul], BitVec.toNat_or, h1, h2, h5]
  rw [IntKind.wrap_u32, Int.emod_eq_of_lt (by omega) (by omega), Int.natCast_add]
theorem wp_copy_runI' {P : Program} (w : World) {o : Oper} {a : Act} {K : Act → World → Prop} {Q : Exit → Act → World → Prop} (d s : Operand) (t t' : TypeId)
    (ho : o.op = .call { callee := .builtin .copy, args := #[d, s], argTypes := #[t, t'] }) (v u : Value) (hd : a.eval d = v) (hs : a.eval s = u) {v' : Value} {w' : World}
    (hr : (Builtin.copy_ #[t, t'] o.type #[v, u]).run P w = .ok v' w') (h : K (a.put o.dst v') w') : o.wp P a w K Q := by
  unfold Oper.wp execOp
  simp only [ho, resolve, invoke, builtin, Sem.run_bind, Sem.run_pure, Result.andThen_ok, List.map_toArray, List.map_cons, List.map_nil, hd, hs, hr]
  exact h
set_option maxRecDepth 100000 in
set_option maxHeartbeats 4000000 in
theorem fwords_any (w : World) (A : Option Addr) (n c : Nat) (l : List UInt8) (hn : n = l.length) (hr : Rd w 0 w.heap.size A (bytes l)) (hnc : n ≤ c) (hN : n ≤ 100000000000) :
    Calls Tryz.prog 96 #[.slice A n c] w fun e w' => ∃ v, e = .returned v ∧ w'.ownsRow w.heap.size 127 1 v (words l).length (u32s (words l)) ∧ Ext w w' := by
  obtain ⟨i0, hi0, hz0, hz1, hz2⟩ := info_parts infoU
  obtain ⟨i5, hi5, _, hy1, _⟩ := info_parts info5
  have hsz : (Tryz.prog.info? 5).map (·.size) = some 1 := by rw [hi5]; simp [hy1]
  have Hn := Lib.hid hn
  have HR := Lib.hid hr
  have hdv : (((n : Int) + 4 - 1) / 4) = (((n + 3) / 4 : Nat) : Int) := by omega
  clear hn hr
  go_enter Tryz.func96, Tryz.ntmps96
  go_wp2_with (refine wpList_make_own _ rfl (.const (.int .i64 0)) (.tmp 10) _ rfl w.heap.size 127 i0 _ 1 Tryz.underlying125 hi0 hz0 hz1 .i64 .i64 _ ((n + 3) / 4) rfl rfl (by first | exact hdv | omega) (by rw [hz2]; omega) (by simp only [maxLen]; omega) (Nat.le_refl _) ?_; intro w2 hown2 hg2)
  have e2 : Ext w w2 := ext_grown (Ext.refl w) (World.ownsRow_nil w w.heap.size 127 1) (show w.grownBy w2 (Value.slice none 0 0).ownBlock from hg2) (Nat.le_refl _)
  have HOwn0 := Lib.hid hown2
  clear hown2 hg2 hdv
  go_wp2_with fail
  go_loopw [3, 4] (fun v i wr => ∃ k : Nat, 4 * k ≤ n + 3 ∧ i = .int .i64 (4 * (k : Int)) ∧ Hid (wr.ownsRow w.heap.size 127 1 v k (u32s (wordsUpto l k))) ∧ Ext w wr) (fun _ i _ => (n + 4 - (intOf i).toNat))
  case atStart => exact ⟨0, by omega, rfl, HOwn0, e2⟩
  case round =>
    clear HOwn0 e2
    obtain ⟨k, hk, rfl, hown, e1⟩ := hrel
    by_cases hlt : 4 * k < n
    · go_wp2_with fail
      generalize hw1 : World.alloc wr _ = w1
      have HBx := Lib.hid (Bx.new hw1)
      have ew1 : Ext wr w1 := by rw [← hw1]; exact (Ext.refl wr).alloc _
      have hzs : w1.heap.size = wr.heap.size + 1 := by rw [← hw1]; simp
      have HZ := Lib.hid hzs
      clear hw1 hzs
      have hcp : ∀ ty, (Builtin.copy_ #[57, 57] ty #[.slice (some ⟨wr.heap.size, 0, none⟩) 4 4, .slice (shiftA A c (4 * k) 1) (n - 4 * k) (c - 4 * k)]).run Tryz.prog w1.drew = .ok (goInt ((Nat.min (n - 4 * k) 4 : Nat) : Int)) (w1.drew.setCells wr.heap.size 0 (bytes ((l.drop (4 * k)).take 4))) := fun ty => by
        have hrd : Rd w1 0 w1.heap.size (shiftA A c (4 * k) 1) (bytes (l.drop (4 * k))) := by
          have := ((HR.out.at (e1.trans ew1) (Nat.le_refl _)).from_ (n := n) (c := c) (k := 4 * k) (size := 1) (by rw [bytes_length, Nat.mul_one]; exact Hn.out.symm) (by omega) hnc)
          rwa [Nat.mul_one, bytes_drop] at this
        obtain ⟨b, o, he, _, _, hcs⟩ := hrd (fun e => by have := bytes_length (l.drop (4 * k)); rw [e] at this; simp at this; have := Hn.out; omega)
        rw [he]
        have hlen : (bytes ((l.drop (4 * k)).take 4)).length = Nat.min (n - 4 * k) 4 := by rw [bytes_length, List.length_take, List.length_drop, ← Hn.out]; exact Nat.min_comm _ _
        have h4 : Nat.min (n - 4 * k) 4 ≤ 4 := Nat.min_le_right _ _
        have := run_copy_cells (P := Tryz.prog) w1.drew 57 57 ty 5 wr.heap.size 0 4 4 ⟨b, o, none⟩ (n - 4 * k) (c - 4 * k) (bytes ((l.drop (4 * k)).take 4)) Tryz.underlying57 hsz hlen
          (fun j v hj => by
            rw [add_lit]
            refine hcs j v ?_
            rw [← bytes_take, List.getElem?_take] at hj
            split at hj
            · exact hj
            · cases hj)
          (fun j hj => by
            have hj' : j < 4 := by rw [hlen] at hj; omega
            rw [Nat.zero_add]
            show (w1.cell? _).isSome = true
            rw [HBx.out.cell j _ (List.getElem?_eq_getElem (by simpa using hj'))]; rfl)
          (fun j hj => by
            have hj' : j < 4 := by rw [hlen] at hj; omega
            rw [Nat.zero_add]
            exact HBx.out.frozen j _ (List.getElem?_eq_getElem (by simpa using hj')))
          (fun v hv => bytes_one _ v hv)
        rw [hlen] at this
        exact this
      obtain ⟨w3, hw3⟩ : ∃ w3, w3 = w1.drew.setCells wr.heap.size 0 (bytes ((l.drop (4 * k)).take 4)) := ⟨_, rfl⟩
      have hb3 : Bx w3 wr.heap.size (four l (4 * k)) := by
        have h1 := bx_sets (bytes ((l.drop (4 * k)).take 4)) 0 _ w1.drew (HBx.out.ext ((Ext.refl w1).drew)) (by
          rw [bytes_length, List.length_take]
          have : ([.int .u8 0, .int .u8 0, .int .u8 0, .int .u8 0] : List Value).length = 4 := rfl
          show 0 + min 4 _ ≤ ([.int .u8 0, .int .u8 0, .int .u8 0, .int .u8 0] : List Value).length
          omega)
        rw [← hw3] at h1
        have h2 := four_at l (4 * k) (by rw [← Hn.out]; exact hlt)
        rw [List.take_zero, List.nil_append, Nat.zero_add] at h1
        exact h2 ▸ h1
      have e3 : Ext wr w3 := by
        rw [hw3]
        exact below_setCells wr.heap.size _ _ _ ew1.drew (Nat.le_refl _)
      have g0 := hb3.cell 0 _ rfl
      have g1 := hb3.cell 1 _ rfl
      have g2 := hb3.cell 2 _ rfl
      have g3 := hb3.cell 3 _ rfl
      rw [← hw3] at hcp
      have HC := Lib.hid hcp
      have hsl : ∀ W, (Instr.slice 57 (.slice A n c) (some (.int .i64 (4 * (k : Int)))) none none).run Tryz.prog W = .ok (.slice (shiftA A c (4 * k) 1) (n - 4 * k) (c - 4 * k)) W := fun W => run_slice_from (P := Tryz.prog) W 57 5 i5 1 Tryz.underlying57 hi5 hy1 A n c (4 * k) _ (by omega) (by omega)
      have hb0 := oc_bd l (4 * k)
      have hb1 := oc_bd l (4 * k + 1)
      have hb2 := oc_bd l (4 * k + 2)
      have hb3' := oc_bd l (4 * k + 3)
      have HWd := Lib.hid (word_eq l (4 * k))
      have HUp := Lib.hid (words_upto l k)
      clear hcp hb3 hw3
      generalize oc l (4 * k) = q0 at *
      generalize oc l (4 * k + 1) = q1 at *
      generalize oc l (4 * k + 2) = q2 at *
      generalize oc l (4 * k + 3) = q3 at *
      refine rgnE (S := fun w' => w' = w1.drew) (by kernel_rfl) ?_ (fun hHeld => ?_)
      case refine_1 => rfl
      refine takeE 0 (v := ?_) rfl (by kernel_rfl) (by kernel_rfl) (by kernel_rfl) (by kernel_rfl) (fun _ _ _ h => h) (by kernel_rfl) ?_ (by assumption) ?_; rotate_left; (focus (intro w hSw; (try dsimp only at hSw); (try go_split_ands); go_simp <;> with_reducible rfl)); (try simp only [Act.put, List.setIfInBounds_toArray, List.set_cons_zero, List.set_cons_succ])
      refine takeE 1 (v := ?_) rfl (by kernel_rfl) (by kernel_rfl) (by kernel_rfl) (by kernel_rfl) (fun _ _ _ h => h) (by kernel_rfl) ?_ (by assumption) ?_; rotate_left; (focus (intro w hSw; (try dsimp only at hSw); (try go_split_ands); go_simp <;> with_reducible rfl)); (try simp only [Act.put, List.setIfInBounds_toArray, List.set_cons_zero, List.set_cons_succ])
      refine takeE 2 (v := ?_) rfl (by kernel_rfl) (by kernel_rfl) (by kernel_rfl) (by kernel_rfl) (fun _ _ _ h => h) (by kernel_rfl) ?_ (by assumption) ?_; rotate_left; (focus (intro w hSw; (try dsimp only at hSw); (try go_split_ands); go_simp <;> with_reducible rfl)); (try simp only [Act.put, List.setIfInBounds_toArray, List.set_cons_zero, List.set_cons_succ])
      refine takeE 3 (v := ?_) rfl (by kernel_rfl) (by kernel_rfl) (by kernel_rfl) (by kernel_rfl) (fun _ _ _ h => h) (by kernel_rfl) ?_ (by assumption) ?_; rotate_left; (focus (intro w hSw; (try dsimp only at hSw); (try go_split_ands); go_simp <;> with_reducible rfl)); (try simp only [Act.put, List.setIfInBounds_toArray, List.set_cons_zero, List.set_cons_succ])
      refine lastE 4 rfl (by kernel_rfl) (by kernel_rfl) (by kernel_rfl) (by kernel_rfl) (fun K hK => ?_)
      refine wp_copy_runI' _ (.tmp 18) (.tmp 21) 57 57 rfl (.slice (some ⟨wr.heap.size, 0, none⟩) 4 4) (.slice (shiftA A c (4 * k) 1) (n - 4 * k) (c - 4 * k)) rfl rfl (HC.out _) ?_
      refine hK.out _ _ ?_; clear hK K; (try simp only [Act.put, List.setIfInBounds_toArray, List.set_cons_zero, List.set_cons_succ])
      have hq : word l (4 * k) = bits BinOp.or IntKind.u32 (bits BinOp.or IntKind.u32 (bits BinOp.or IntKind.u32 (q0 * 16777216) (q1 * 65536)) (q2 * 256)) q3 := by
        rw [HWd.out, or_i 24 q0 (q1 * 65536) 16777216 rfl (by omega) (by omega) (by omega) (by omega), show q0 * 16777216 + q1 * 65536 = (q0 * 256 + q1) * 65536 by omega,
          or_i 16 (q0 * 256 + q1) (q2 * 256) 65536 rfl (by omega) (by omega) (by omega) (by omega), show (q0 * 256 + q1) * 65536 + q2 * 256 = (q0 * 65536 + q1 * 256 + q2) * 256 by omega,
          or_i 8 (q0 * 65536 + q1 * 256 + q2) q3 256 rfl (by omega) (by omega) (by omega) (by omega)]
        first | done | omega
      have HQ := Lib.hid hq
      clear hq
      go_wp2_with
        (at_builtin
         refine list_app _ rfl (.tmp 23) (.tmp 42) _ rfl 127 i0 _ 1 4 Tryz.underlying125 hi0 hz0 hz1 hz2 rfl (by omega) w.heap.size _ k _ rfl (own_ext hown.out (e3.alloc _)) 0 _ _ 1 1 [.int .u32 (bits BinOp.or IntKind.u32 (bits BinOp.or IntKind.u32 (bits BinOp.or IntKind.u32 (q0 * 16777216) (q1 * 65536)) (q2 * 256)) q3)] rfl rfl
           ((rd_new _ _ _).more (Nat.zero_le _) (Nat.le_refl _)) (by simp [Value.oneCell']) (by simp only [maxLen]; omega) (by omega) (by have := e1.size; have := e3.size; simp; omega) ?_
         intro v5 w5 hown5 he5 _ _
         have e5 : Ext w w5 := he5 _ ((e1.trans e3).alloc _) (Nat.le_refl _)
         have HOwn5 := Lib.hid hown5
         clear he5 hown5)
      go_roundw
      case rel => exact ⟨k + 1, by omega, by go_num, Lib.hid (by rw [HUp.out, u32s_append, HQ.out]; exact HOwn5.out), e5⟩
      case measure => simp [intOf]; omega
    · have HL := Lib.hid (show (words l).length = k by rw [words_length, ← Hn.out]; omega)
      have HW := Lib.hid (show words l = wordsUpto l k by rw [words, wordsUpto, ← words_length, HL.out])
      go_wp2_with fail
      go_ret
      exact ⟨_, rfl, by rw [HL.out, HW.out]; exact hown.out, e1⟩
end Go.Proofs.YtmecjjmlccdppaaGreatDoor
