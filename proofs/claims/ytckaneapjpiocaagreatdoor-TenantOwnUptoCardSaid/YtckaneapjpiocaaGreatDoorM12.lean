/- The texts Wri, Rr1, Rng, Cnk, Cns, Ipr in one file. -/
import Derived.Test.YtckaneapjpiocaaGreatDoorM11
import Derived.Test.YtckaneapjpiocaaGreatDoorM3
import Derived.Test.YtckaneapjpiocaaGreatDoorM5
import Derived.Test.YtckaneapjpiocaaGreatDoorM2
import Derived.Test.YtckaneapjpiocaaGreatDoorM4
import Derived.Test.YtckaneapjpiocaaGreatDoorM1
import Derived.RangeFuncNested
import Derived.RangeFuncBound
import Derived.RangeFuncCalls
import Derived.RangeFuncLeaves
import Derived.Shelf.Abstract
import Derived.Shelf.RegionOpen
import Derived.OwnWalkIn
import Derived.TacticsInMore
import Derived.LoopNIn
import Derived.LoopIn
namespace Go.Proofs.YtckaneapjpiocaaGreatDoor
open Go.RowKit Go.Maps Go.Sort Go.Shelf
set_option linter.unusedVariables false
set_option linter.unusedSimpArgs false
abbrev wri (b : Nat) (v : Value) (n : Nat) (xs : List ByteArray) (its : List It) : List It := .box b [v] :: .row 9 1 v n (xs.map Value.string) :: its
set_option maxRecDepth 100000 in
set_option maxHeartbeats 4000000 in
theorem wtext_any {w0 w : World} {its : List It} (b : Nat) (v : Value) (n : Nat) (xs ys : List ByteArray) (H : Heap w0 (wri b v n xs its) w) (A : Option Addr) (m c : Nat) (hm : m = ys.length) (hr : Rd w 0 w.heap.size A (ys.map Value.string)) (hN : n + m ≤ 100000000) :
    Calls Tryz.prog 87 #[.pointer (some ⟨b, 0, none⟩), .slice A m c] w fun e w' => ∃ v', e = .returned (.tuple #[]) ∧ Heap w0 (wri b v' (n + m) (xs ++ ys) its) w' := by
  obtain ⟨i0, hi0, hz0, hz1, hz2⟩ := info_parts infoT
  have HH := Lib.hid H
  have HR := Lib.hid hr
  have Hm := Lib.hid hm
  have HO := Lib.hid (show ∀ u ∈ ys.map Value.string, u.oneCell' = true from fun u hu => by obtain ⟨y, _, rfl⟩ := List.mem_map.1 hu; rfl)
  clear H hr hm
  go_enter Tryz.func87, Tryz.ntmps87
  go_wp2_with (first | (refine shl_load1 HH.out rfl rfl rfl 0 rfl rfl (by decide +kernel) ?_) | (refine shl_app (e := 9) (size := 1) (bytes := 16) (news := ys.map Value.string) (lo := 0) (.tmp 8) (.tmp 9) _ rfl rfl Tryz.underlying109 hi0 hz0 hz1 hz2 rfl (by omega) HH.out 1 rfl rfl (m := m) rfl (by rw [Nat.mul_one, List.length_map]; exact Hm.out.symm) HR.out HO.out (by simp only [maxLen]; omega) (by omega) ?_; intro v7 w7 hh7 h7; clear HH; obtain ⟨A7, c7, rfl⟩ := h7; have HH := Lib.hid hh7; clear hh7) | (refine shl_store1 HH.out rfl rfl rfl rfl 0 rfl rfl rfl (by kernel_rfl) ?_; clear HH; intro wS HHS; have HH := Lib.hid HHS; clear HHS))
  go_end0
  refine ⟨rfl, .slice A7 (n + m) c7, ?_⟩
  have h := HH.out
  rw [wri, List.map_append]
  exact h
set_option maxRecDepth 100000 in
set_option maxHeartbeats 4000000 in
theorem wnumber_any {w0 w : World} {its : List It} (b : Nat) (v : Value) (n : Nat) (xs : List ByteArray) (H : Heap w0 (wri b v n xs its) w) (A : Option Addr) (m c : Nat) (zs : List Int) (hm : m = zs.length) (hr : Rd w 0 w.heap.size A (ints zs)) (hN : n + m ≤ 100000000) (hwf : ∀ z ∈ zs, -9223372036854775808 ≤ z ∧ z ≤ 9223372036854775807) :
    Calls Tryz.prog 86 #[.pointer (some ⟨b, 0, none⟩), .slice A m c] w fun e w' => ∃ v', e = .returned (.tuple #[]) ∧ Heap w0 (wri b v' (n + m) (xs ++ zs.map num8) its) w' := by
  have HH := Lib.hid H
  have HNu := Lib.hid (numbers_any w A m c zs hm hr (by omega) hwf)
  have Hm := Lib.hid (show m = (zs.map num8).length by rw [List.length_map]; exact hm)
  have HE := Lib.hid (show num8s zs = (zs.map num8).map Value.string by rw [List.map_map]; rfl)
  clear H hr hwf hm
  go_enter Tryz.func86, Tryz.ntmps86
  go_wp2_with fail
  refine HNu.out.mono ?_
  rintro e w2 ⟨v2, rfl, hown, e2⟩
  obtain ⟨A2, c2, rfl, k1, k2, _⟩ := own_form hown
  have HR2 := Lib.hid (show Rd w2 0 w2.heap.size A2 ((zs.map num8).map Value.string) by rw [← HE.out]; exact (Rd.of_own hown).m0)
  have HH2 := Lib.hid (HH.out.later e2)
  clear HH hown e2
  go_wp2_with fail
  refine (wtext_any b v n xs (zs.map num8) HH2.out A2 m c2 Hm.out HR2.out hN).mono ?_
  rintro e w3 ⟨v3, rfl, h3⟩
  have HH3 := Lib.hid h3
  clear h3 HH2 HR2
  go_wp2_with fail
  go_end0
  first | exact ⟨v3, rfl, HH3.out⟩ | exact ⟨rfl, v3, HH3.out⟩
set_option maxRecDepth 100000 in
theorem wneed_true (w : World) (q : Int) : Calls Tryz.prog 46 #[.bool true, .int .i64 q] w fun e w' => e = .returned (.tuple #[]) ∧ w' = w := by
  go_enter Tryz.func46, Tryz.ntmps46
  go_wp2_with fail
  go_end0
  exact ⟨rfl, rfl⟩
set_option maxRecDepth 100000 in
set_option maxHeartbeats 4000000 in
theorem woctets_any {w0 w : World} {its : List It} (b : Nat) (v : Value) (n : Nat) (xs : List ByteArray) (H : Heap w0 (wri b v n xs its) w) (A : Option Addr) (m c : Nat) (bs : List UInt8) (hm : m = bs.length) (hM : m ≤ 100000000) (hr : Rd w 0 w.heap.size A (bytes bs)) (hN : n + 1 ≤ 100000000) :
    Calls Tryz.prog 90 #[.pointer (some ⟨b, 0, none⟩), .slice A m c, .int .i64 0] w fun e w' => ∃ v', e = .returned (.tuple #[]) ∧ Heap w0 (wri b v' (n + 1) (xs ++ [strO bs]) its) w' := by
  have HH := Lib.hid H
  have HC := Lib.hid (fun W (hW : Ext w W) => run_conv_str (P := Tryz.prog) W 53 9 5 Tryz.underlying53 Tryz.underlying5 Tryz.underlying9 _ _ A m c bs hm (Rd.at hr hW (Nat.le_refl _)))
  have Hm := Lib.hid hm
  clear H hr hm
  go_enter Tryz.func90, Tryz.ntmps90
  go_wp2_with fail
  refine (wneed_true w 0).mono ?_
  rintro e w1 ⟨rfl, rfl⟩
  have hcv := HC.out w1 (Ext.refl _)
  clear HC
  go_wp2_with fail
  generalize hwA : World.alloc w1 _ = w2
  have HH2 := Lib.hid (HH.out.allocE hwA)
  clear hwA HH hcv
  have HR2 := Lib.hid (show Rd w2 0 w2.heap.size (some ⟨w1.heap.size, 0, none⟩) ([strO bs].map Value.string) from (HH2.out.boxRd 0 rfl).m0)
  refine (wtext_any b v n xs [strO bs] HH2.out.tail _ 1 1 rfl HR2.out hN).mono ?_
  rintro e w3 ⟨v3, rfl, h3⟩
  have HH3 := Lib.hid h3
  clear h3 HH2 HR2
  go_wp2_with fail
  go_end0
  first | exact ⟨v3, rfl, HH3.out⟩ | exact ⟨rfl, v3, HH3.out⟩
set_option maxRecDepth 100000 in
set_option maxHeartbeats 4000000 in
theorem wown_any {w0 w : World} {its : List It} (b : Nat) (v : Value) (n : Nat) (xs : List ByteArray) (H : Heap w0 (wri b v n xs its) w) (A : Option Addr) (m c : Nat) (ps : List Prp) (hm : m = ps.length) (hM : m ≤ 10000000) (hr : Rd w0 0 w0.heap.size A (prps ps)) (hN : n ≤ 10000000) :
    Calls Tryz.prog 89 #[.pointer (some ⟨b, 0, none⟩), .slice A m c] w fun e w' => ∃ v', e = .returned (.tuple #[]) ∧ Heap w0 (wri b v' (n + (1 + m * 2)) (xs ++ ownT ps) its) w' := by
  have HH := Lib.hid H
  have HT := Lib.hid (fun W (hW : Ext w0 W) => ptext_any W A m c ps hm (by omega) (Rd.at hr hW (Nat.le_refl _)))
  have Hm := Lib.hid hm
  clear H hr hm
  go_enter Tryz.func89, Tryz.ntmps89
  go_wp2_with fail
  generalize hwA : World.alloc w _ = w2
  have HH2 := Lib.hid (HH.out.allocE hwA)
  clear hwA HH
  refine (wnumber_any b v n xs HH2.out.tail _ 1 1 [(m : Int)] rfl ((HH2.out.boxRd 0 rfl).m0) (by omega) (by intro z hz; simp only [List.mem_singleton] at hz; subst hz; omega)).mono ?_
  rintro e w3 ⟨v3, rfl, h3⟩
  have HH3 := Lib.hid h3
  clear h3 HH2
  go_wp2_with fail
  refine (HT.out w3 HH3.out.ext).mono ?_
  rintro e w4 ⟨v4, rfl, hown, e4⟩
  obtain ⟨A4, c4, rfl, k1, k2, _⟩ := own_form hown
  have HR4 := Lib.hid (show Rd w4 0 w4.heap.size A4 ((ptext ps).map Value.string) from (Rd.of_own hown).m0)
  have HH4 := Lib.hid (HH3.out.later e4)
  have HX := Lib.hid (show ownT ps = [num8 (m : Int)] ++ ptext ps by rw [ownT, Hm.out]; rfl)
  clear HH3 hown e4 HT
  go_wp2_with fail
  refine (wtext_any b v3 (n + 1) _ (ptext ps) HH4.out A4 (m * 2) c4 (by rw [ptext_length, Hm.out]) HR4.out (by omega)).mono ?_
  rintro e w5 ⟨v5, rfl, h5⟩
  have HH5 := Lib.hid h5
  clear h5 HH4 HR4
  go_wp2_with fail
  go_end0
  have h : Heap w0 (wri b v5 (n + (1 + m * 2)) (xs ++ ownT ps) its) w5 := by
    rw [HX.out, ← List.append_assoc, ← Nat.add_assoc]
    exact HH5.out
  first | exact ⟨v5, rfl, h⟩ | exact ⟨rfl, v5, h⟩
theorem join_any0 (w : World) (A : Option Addr) (n c : Nat) (ks : List ByteArray) (hn : n = ks.length) (hc : n ≤ c) (hN : n ≤ 1000) (hl : (keyO ks).size ≤ 100000000) (hr : Rd w 0 w.heap.size A (ks.map Value.string)) :
    Calls Tryz.prog 145 #[.slice A n c, .string ⟨#[47]⟩] w fun e w' => e = .returned (.string (keyO ks)) ∧ Ext w w' := by
  subst hn
  by_cases h0 : ks = []
  · subst h0
    refine (Tryz.strings_Join_none A c ⟨#[47]⟩ w).mono ?_
    rintro e w' ⟨rfl, rfl⟩
    exact ⟨rfl, Ext.refl _⟩
  · obtain ⟨b, o, rfl, _, hb, hcl⟩ := hr (by simpa using h0)
    exact Tryz.strings_Join b o c ks ⟨#[47]⟩ w (fun j x hx => hcl j _ (by rw [List.getElem?_map, hx]; rfl)) hb (by omega) hc (by
      have e : (keyO ks).size = (Go.Lib.join (ks.map (·.data.toList)) [47]).length := List.size_toArray
      rw [e] at hl
      exact Nat.le_trans hl (by decide))
theorem sizeObj : (Tryz.prog.info? 56).map (·.size) = some 3 := by kernel_rfl
def ObjOk (w w' : World) (k : ByteArray) (bs : List UInt8) (e : Ending) : Prop :=
  ∃ A m c, e = .returned (.agg #[.string k, .slice A m c, .slice none 0 0]) ∧ w'.ownsRow w.heap.size 5 1 (.slice A m c) m (bytes bs) ∧ m = bs.length ∧ Ext w w'
set_option maxRecDepth 100000 in
set_option maxHeartbeats 4000000 in
theorem wobject_any {w0 w : World} {its : List It} (b : Nat) (A0 : Option Addr) (c0 n : Nat) (xs : List ByteArray) (H : Heap w0 (wri b (.slice A0 n c0) n xs its) w) (A : Option Addr) (m c : Nat) (ks : List ByteArray) (hm : m = ks.length) (hc : m ≤ c) (hM : m ≤ 1000) (hr : Rd w 0 w.heap.size A (ks.map Value.string)) (hx : n = xs.length) (hN : n ≤ 10000000) (hE : wE xs = 0) (hl : (keyO ks).size ≤ 100000000) :
    Calls Tryz.prog 88 #[.pointer (some ⟨b, 0, none⟩), .slice A m c] w fun e w' => ObjOk w w' (keyO ks) (flat xs) e := by
  have HH := Lib.hid H
  have HW := Lib.hid (fun W (hW : Ext w W) => show Calls Tryz.prog 97 #[.slice A0 n c0] W fun e w' => ∃ v, e = .returned (.tuple #[v, .int .i64 0]) ∧ w'.ownsRow W.heap.size 5 1 v (flat xs).length (bytes (flat xs)) ∧ Ext W w' from (write_any W A0 n c0 xs hx (by omega) (Rd.at ((Rd.of_own (H.rowAt 1 rfl)).m0) hW (Nat.le_refl _))).mono (fun e w' h => by
    obtain ⟨v, h1, h2, h3⟩ := h
    rw [hE] at h1
    rw [show wB xs = flat xs by rw [wB, if_pos hE]] at h2
    exact ⟨v, h1, h2, h3⟩))
  have HJ := Lib.hid (fun W (hW : Ext w W) => join_any0 W A m c ks hm hc hM hl (Rd.at hr hW (Nat.le_refl _)))
  have HG := Lib.hid (show w.cell? ⟨b, 0, none⟩ = some (.slice A0 n c0) from (H.boxAt 0 rfl).cell 0 _ rfl)
  clear H hr hm hE hx hl hc hN hM
  go_enter Tryz.func88, Tryz.ntmps88
  go_upto_region 1 with fail
  generalize hwH : World.alloc w _ = w1; have HH := Lib.hid (Heap.one hwH); clear hwH
  have g0 : w1.cell? ⟨b, 0, none⟩ = some (.slice A0 n c0) := (Below.cell HH.out.ext (World.block_lt_of_cell? w _ HG.out)).trans HG.out
  clear HG
  go_wp2_with fail
  clear g0
  refine (HW.out _ HH.out.ext).mono ?_
  rintro e w2 ⟨v2, rfl, hown, e2⟩
  obtain ⟨A2, c2, rfl, k1, k2, _⟩ := own_form hown
  have HH2 := Lib.hid (HH.out.addRow e2 hown)
  clear HH hown e2
  go_wp2_with fail
  refine (wneed_true w2 0).mono ?_
  rintro e w3 ⟨rfl, rfl⟩
  go_wp2_with fail
  refine (HJ.out w3 HH2.out.ext).mono ?_
  rintro e w4 ⟨rfl, e4⟩
  have HH := Lib.hid (HH2.out.later e4)
  clear HH2 e4
  go_wp2_with (refine shl_store HH.out sizeObj rfl rfl rfl rfl 1 rfl rfl rfl rfl ?_; clear HH; intro wS HHS; have HH := Lib.hid HHS; clear HHS)
  refine ret_cell sizeObj (by kernel_rfl) HH.out rfl rfl 1 rfl rfl rfl ?_
  exact ⟨A2, _, c2, rfl, HH.out.rowAt 0 rfl, rfl, HH.out.ext⟩
theorem ownT_len (l : List Prp) : (ownT l).length = 1 + l.length * 2 := by rw [ownT, List.length_cons, ptext_length]; omega
theorem flat_le {α : Type} (f : α → List ByteArray) (l : List α) (k : Nat) (h : k < l.length) : ((l.take k).flatMap f).length + (f l[k]).length ≤ (l.flatMap f).length := by
  have e : l = l.take k ++ l[k] :: l.drop (k + 1) := by simp
  have : (l.flatMap f).length = ((l.take k ++ l[k] :: l.drop (k + 1)).flatMap f).length := by rw [← e]
  rw [this, List.flatMap_append, List.flatMap_cons, List.length_append, List.length_append]; omega
theorem wE_len {l : List ByteArray} (h : wE l = 0) : l.length ≤ 1024 := by
  have : ¬ 1024 < l.length := fun h' => by rw [wE, if_pos h'] at h; cases h
  omega
abbrev wtr (b : Nat) (A : Option Addr) (c : Nat) (xs : List ByteArray) (its : List It) : List It := wri b (.slice A xs.length c) xs.length xs its
theorem wr_of {w0 w : World} {its : List It} {b n : Nat} {v : Value} {xs : List ByteArray} (H : Heap w0 (wri b v n xs its) w) : ∃ A c, Heap w0 (wtr b A c xs its) w := by
  have hr := H.rowAt 1 rfl
  obtain ⟨A, c, rfl, _, _, _⟩ := own_form hr
  have hn : xs.length = n := by have := hr.1; rw [List.length_map, Nat.mul_one] at this; exact this
  subst hn
  exact ⟨A, c, H⟩
theorem wtr0 {w0 w : World} {its : List It} {b : Nat} (H : Heap w0 (.box b [.slice none 0 0] :: its) w) : Heap w0 (wtr b none 0 [] its) w := by
  have h := H.row0 (e := 9) (size := 1)
  exact (show Heap w0 (.row 9 1 (.slice none 0 0) 0 [] :: ([.box b [.slice none 0 0]] ++ its)) w from h).mid
theorem wtr_push {w0 w : World} {x : It} {its : List It} {b : Nat} {A : Option Addr} {c : Nat} {xs : List ByteArray} (H : Heap w0 (x :: wtr b A c xs its) w) : Heap w0 (wtr b A c xs (x :: its)) w :=
  (show Heap w0 (x :: ([.box b [.slice A xs.length c], .row 9 1 (.slice A xs.length c) xs.length (xs.map Value.string)] ++ its)) w from H).mid
theorem wtr_drop {w0 w : World} {x : It} {its : List It} {b : Nat} {A : Option Addr} {c : Nat} {xs : List ByteArray} (H : Heap w0 (wtr b A c xs (x :: its)) w) : Heap w0 (wtr b A c xs its) w := by
  refine H.sub' (fun i => if i < 2 then i else i + 1) (fun i j e => ?_) fun i y hy => ?_
  · split at e <;> split at e <;> omega
  · match i with
    | 0 => exact hy
    | 1 => exact hy
    | i + 2 =>
      rw [if_neg (by omega)]
      exact hy
theorem ObjOk.lower {w0 w w' : World} {k : ByteArray} {bs : List UInt8} {e : Ending} (h : ObjOk w w' k bs e) (e0 : Ext w0 w) : ObjOk w0 w' k bs e := by
  obtain ⟨A, m, c, h1, h2, h3, h4⟩ := h
  exact ⟨A, m, c, h1, own_lower h2 e0.size, h3, e0.trans h4⟩
section
variable {w0 w : World} {its : List It} (b : Nat) (A0 : Option Addr) (c0 : Nat) (xs : List ByteArray)
theorem wr_text (ys : List ByteArray) (H : Heap w0 (wtr b A0 c0 xs its) w) (A : Option Addr) (m c : Nat) (hm : m = ys.length) (hr : Rd w 0 w.heap.size A (ys.map Value.string)) (hN : xs.length + m ≤ 100000000) :
    Calls Tryz.prog 87 #[.pointer (some ⟨b, 0, none⟩), .slice A m c] w fun e w' => e = .returned (.tuple #[]) ∧ ∃ A' c', Heap w0 (wtr b A' c' (xs ++ ys) its) w' :=
  (wtext_any b _ _ xs ys H A m c hm hr hN).mono fun e w' h => by
    obtain ⟨v, h1, h2⟩ := h
    exact ⟨h1, wr_of h2⟩
theorem wr_number (zs : List Int) (H : Heap w0 (wtr b A0 c0 xs its) w) (A : Option Addr) (m c : Nat) (hm : m = zs.length) (hr : Rd w 0 w.heap.size A (ints zs)) (hN : xs.length + m ≤ 100000000) (hwf : ∀ z ∈ zs, -9223372036854775808 ≤ z ∧ z ≤ 9223372036854775807) :
    Calls Tryz.prog 86 #[.pointer (some ⟨b, 0, none⟩), .slice A m c] w fun e w' => e = .returned (.tuple #[]) ∧ ∃ A' c', Heap w0 (wtr b A' c' (xs ++ zs.map num8) its) w' :=
  (wnumber_any b _ _ xs H A m c zs hm hr hN hwf).mono fun e w' h => by
    obtain ⟨v, h1, h2⟩ := h
    exact ⟨h1, wr_of h2⟩
theorem wr_octets (bs : List UInt8) (H : Heap w0 (wtr b A0 c0 xs its) w) (A : Option Addr) (m c : Nat) (hm : m = bs.length) (hM : m ≤ 100000000) (hr : Rd w 0 w.heap.size A (bytes bs)) (hN : xs.length + 1 ≤ 100000000) :
    Calls Tryz.prog 90 #[.pointer (some ⟨b, 0, none⟩), .slice A m c, .int .i64 0] w fun e w' => e = .returned (.tuple #[]) ∧ ∃ A' c', Heap w0 (wtr b A' c' (xs ++ [strO bs]) its) w' :=
  (woctets_any b _ _ xs H A m c bs hm hM hr hN).mono fun e w' h => by
    obtain ⟨v, h1, h2⟩ := h
    exact ⟨h1, wr_of h2⟩
theorem wr_own (ps : List Prp) (H : Heap w0 (wtr b A0 c0 xs its) w) (A : Option Addr) (m c : Nat) (hm : m = ps.length) (hM : m ≤ 10000000) (hr : Rd w0 0 w0.heap.size A (prps ps)) (hN : xs.length ≤ 10000000) :
    Calls Tryz.prog 89 #[.pointer (some ⟨b, 0, none⟩), .slice A m c] w fun e w' => e = .returned (.tuple #[]) ∧ ∃ A' c', Heap w0 (wtr b A' c' (xs ++ ownT ps) its) w' :=
  (wown_any b _ _ xs H A m c ps hm hM hr hN).mono fun e w' h => by
    obtain ⟨v, h1, h2⟩ := h
    exact ⟨h1, wr_of h2⟩
theorem wr_object (ks : List ByteArray) (H : Heap w0 (wtr b A0 c0 xs its) w) (A : Option Addr) (m c : Nat) (hm : m = ks.length) (hc : m ≤ c) (hM : m ≤ 1000) (hr : Rd w 0 w.heap.size A (ks.map Value.string)) (hE : wE xs = 0) (hl : (keyO ks).size ≤ 100000000) :
    Calls Tryz.prog 88 #[.pointer (some ⟨b, 0, none⟩), .slice A m c] w fun e w' => ObjOk w w' (keyO ks) (flat xs) e :=
  wobject_any b A0 c0 _ xs H A m c ks hm hc hM hr rfl (by
    have : ¬ 1024 < xs.length := fun h => by rw [wE, if_pos h] at hE; cases hE
    omega) hE hl
end
open Go.RowKit Go.Maps Go.Sort Go.Shelf
set_option linter.unusedVariables false
set_option linter.unusedSimpArgs false
set_option maxRecDepth 100000 in
theorem tneed_false (w : World) (q : Int) : Calls Tryz.prog 46 #[.bool false, .int .i64 q] w fun e w' => e = panE q ∧ w' = w := by
  go_enter Tryz.func46, Tryz.ntmps46
  go_wp2_with fail
  exact ⟨rfl, rfl, rfl⟩
abbrev strV (l : List ByteArray) : List Value := l.map Value.string
def RS (w0 : World) (b : Nat) (its : List It) (L : RdL) (ts : List ByteArray) (w : World) : Prop :=
  ∃ A c S L', (∀ q ∈ L, q ∈ L') ∧ (A, strV ts) ∈ L' ∧ ts.length ≤ c ∧ c ≤ maxLen ∧ (∀ s ∈ ts, s.size ≤ 65536) ∧ ts.length ≤ 1024 ∧ Heap w0 (.box b [.slice A ts.length c] :: It.bag S L' :: its) w
section
variable {w0 w w' : World} {b : Nat} {its : List It} {L : RdL} {ts : List ByteArray}
theorem RS.heap (h : RS w0 b its L ts w) : Heap w0 its w := by
  obtain ⟨A, c, S, L', _, _, _, _, _, _, H⟩ := h
  exact H.tail.tail
theorem RS.sub {L2 : RdL} (h : RS w0 b its L ts w) (hs : ∀ q ∈ L2, q ∈ L) : RS w0 b its L2 ts w := by
  obtain ⟨A, c, S, L', h1, h2⟩ := h
  exact ⟨A, c, S, L', fun q hq => h1 q (hs q hq), h2⟩
theorem RS.later (h : RS w0 b its L ts w) (e : Ext w w') : RS w0 b its L ts w' := by
  obtain ⟨A, c, S, L', h1, h2, h3, h4, h5, h6, H⟩ := h
  exact ⟨A, c, S, L', h1, h2, h3, h4, h5, h6, H.later e⟩
theorem RS.more {L2 : RdL} (h : RS w0 b its L ts w) (e : Ext w w') (hr : ∀ q ∈ L2, Rd w' w.heap.size w'.heap.size q.1 q.2) : RS w0 b its (L2 ++ L) ts w' := by
  obtain ⟨A, c, S, L', h1, h2, h3, h4, h5, h6, H⟩ := h
  obtain ⟨S', H'⟩ := H.bagExt (j := 1) rfl e hr
  refine ⟨A, c, S', L2 ++ L', fun q hq => ?_, List.mem_append_right _ h2, h3, h4, h5, h6, H'⟩
  rcases List.mem_append.1 hq with hq | hq
  · exact List.mem_append_left _ hq
  · exact List.mem_append_right _ (h1 q hq)
end
set_option maxRecDepth 100000 in
theorem rtext_bad {w0 w : World} {b : Nat} {its : List It} {L : RdL} (HR : RS w0 b its L [] w) :
    Calls Tryz.prog 103 #[.pointer (some ⟨b, 0, none⟩)] w fun e w' => e = panE 21 ∧ Heap w0 its w' := by
  obtain ⟨A, c, S, L', h1, h2, h3, h4, h5, h6, H⟩ := HR
  have HH := Lib.hid H
  clear H h1 h2 h3 h4 h5 h6
  go_enter Tryz.func103, Tryz.ntmps103
  go_wp2_with (refine shl_load1 HH.out rfl rfl rfl 0 rfl rfl (by decide +kernel) ?_)
  refine (tneed_false _ 21).mono ?_
  rintro e w1 ⟨rfl, rfl⟩
  exact ⟨rfl, rfl, HH.out.tail.tail⟩
set_option maxRecDepth 100000 in
set_option maxHeartbeats 4000000 in
theorem rtext_ok {w0 w : World} {b : Nat} {its : List It} {L : RdL} {s : ByteArray} {ts : List ByteArray} (HR : RS w0 b its L (s :: ts) w) :
    Calls Tryz.prog 103 #[.pointer (some ⟨b, 0, none⟩)] w fun e w' => e = .returned (.string s) ∧ RS w0 b its L ts w' := by
  obtain ⟨i0, hi0, hz0, hz1, hz2⟩ := info_parts info9
  obtain ⟨A, c, S, L', h1, h2, h3, h4, h5, h6, H⟩ := HR
  have HH := Lib.hid H
  have HO := Lib.hid (fun (w' : World) (A' : Option Addr) (hA : A' = shiftA A c 1 1) (H' : Heap w0 (.box b [.slice A' ts.length (c - 1)] :: It.bag S L' :: its) w') => show RS w0 b its L ts w' by
    subst hA
    have H2 := H'.bagMore (j := 1) rfl (L2 := [(shiftA A c 1 1, strV ts)]) (fun q hq ok hok => by
      obtain rfl := List.mem_singleton.1 hq
      have := (hok _ h2).from_ (n := (s :: ts).length) (c := c) (k := 1) (by simp [strV]) (by simp) h3
      simpa [strV] using this)
    refine ⟨_, c - 1, S, _, fun q hq => List.mem_append_right _ (h1 q hq), List.mem_cons_self .., ?_, ?_, fun s hs => h5 s (List.mem_cons_of_mem _ hs), ?_, H2⟩
    · rw [List.length_cons] at h3; omega
    · omega
    · rw [List.length_cons] at h6; omega)
  have hb := H.bagRd (j := 1) rfl h2
  obtain ⟨b1, o1, rfl, _, _, hcl⟩ := hb (by simp [strV])
  have hc0 : w.cell? ⟨b1, o1, none⟩ = some (.string s) := hcl 0 _ rfl
  have hlen : (s :: ts).length = ts.length + 1 := rfl
  rw [hlen] at HH h3 h6
  have hsl : ∀ W, (Instr.slice 109 (.slice (some ⟨b1, o1, none⟩) (ts.length + 1) c) (some (.int .i64 1)) none none).run Tryz.prog W = .ok (.slice (shiftA (some ⟨b1, o1, none⟩) c 1 1) ts.length (c - 1)) W := fun W => run_slice_from W 109 9 i0 1 Tryz.underlying109 hi0 hz1 (some ⟨b1, o1, none⟩) (ts.length + 1) c 1 _ rfl (by omega)
  have hd : decide ((0 : Int) < ((ts.length + 1 : Nat) : Int)) = true := by simp
  clear hcl hlen H h1 h2 hb
  generalize ts.length = n at *
  go_enter Tryz.func103, Tryz.ntmps103
  go_wp2_with (refine shl_load1 HH.out rfl rfl rfl 0 rfl rfl (by decide +kernel) ?_)
  refine (wneed_true _ 21).mono ?_
  rintro e w1 ⟨rfl, rfl⟩
  go_wp2_with (first | (refine shl_load1 HH.out rfl rfl rfl 0 rfl rfl (by decide +kernel) ?_) | (refine shl_store1 HH.out rfl rfl rfl rfl 0 rfl rfl rfl (by kernel_rfl) ?_; clear HH; intro wS HHS; have HH := Lib.hid HHS; clear HHS))
  go_ret
  exact ⟨rfl, HO.out _ _ rfl HH.out⟩
def rNm (m : Int) : List ByteArray → Option (Int × List ByteArray)
  | [] => none
  | s :: l => if fE s = 0 ∧ fV s ≤ m then some (fV s, l) else none
set_option maxRecDepth 100000 in
set_option maxHeartbeats 4000000 in
theorem rnum_any {w0 w : World} {b : Nat} {its : List It} {L : RdL} {ts : List ByteArray} (HR : RS w0 b its L ts w) (m : Int) :
    Calls Tryz.prog 102 #[.pointer (some ⟨b, 0, none⟩), .int .i64 m] w fun e w' => match rNm m ts with
      | none => e = panE 21 ∧ Heap w0 its w'
      | some (v, ts') => e = .returned (.int .i64 v) ∧ RS w0 b its L ts' w' := by
  cases ts with
  | nil =>
    simp only [rNm]
    have HT := Lib.hid (rtext_bad HR)
    clear HR
    go_enter Tryz.func102, Tryz.ntmps102
    go_wp2_with fail
    refine HT.out.mono ?_
    rintro e w1 ⟨rfl, h1⟩
    exact ⟨rfl, rfl, h1⟩
  | cons s ts =>
    have HT := Lib.hid (rtext_ok HR)
    have hs : s.size ≤ 65536 := by
      obtain ⟨A, c, S, L', _, _, _, _, h5, _⟩ := HR
      exact h5 s (List.mem_cons_self ..)
    have HF := Lib.hid (fun W => fnumber_any s W (by omega))
    clear HR hs
    simp only [rNm]
    by_cases hE : fE s = 0
    · by_cases hV : fV s ≤ m
      · rw [if_pos ⟨hE, hV⟩]
        rw [hE] at HF
        generalize fV s = v at *
        clear hE
        have hd : decide (v ≤ m) = true := by simpa using hV
        go_enter Tryz.func102, Tryz.ntmps102
        go_wp2_with fail
        refine HT.out.mono ?_
        rintro e w1 ⟨rfl, h1⟩
        have H1 := Lib.hid h1
        clear h1
        go_wp2_with fail
        refine (HF.out _).mono ?_
        rintro e w2 ⟨rfl, e2⟩
        go_wp2_with fail
        refine (wneed_true _ 21).mono ?_
        rintro e w3 ⟨rfl, rfl⟩
        go_wp2_with fail
        go_ret
        exact ⟨rfl, H1.out.later e2⟩
      · rw [if_neg (fun h => hV h.2)]
        rw [hE] at HF
        generalize fV s = v at *
        clear hE
        have hd : decide (v ≤ m) = false := by simpa using hV
        go_enter Tryz.func102, Tryz.ntmps102
        go_wp2_with fail
        refine HT.out.mono ?_
        rintro e w1 ⟨rfl, h1⟩
        have H1 := Lib.hid h1.heap
        clear h1
        go_wp2_with fail
        refine (HF.out _).mono ?_
        rintro e w2 ⟨rfl, e2⟩
        go_wp2_with fail
        refine (tneed_false _ 21).mono ?_
        rintro e w3 ⟨rfl, rfl⟩
        exact ⟨rfl, rfl, H1.out.later e2⟩
    · rw [if_neg (fun h => hE h.1)]
      generalize fV s = v at *
      have hd : (fE s == 0) = false := by simpa using hE
      generalize fE s = x at *
      clear hE
      go_enter Tryz.func102, Tryz.ntmps102
      go_wp2_with fail
      refine HT.out.mono ?_
      rintro e w1 ⟨rfl, h1⟩
      have H1 := Lib.hid h1.heap
      clear h1
      go_wp2_with fail
      refine (HF.out _).mono ?_
      rintro e w2 ⟨rfl, e2⟩
      go_wp2_with fail
      refine (tneed_false _ 21).mono ?_
      rintro e w3 ⟨rfl, rfl⟩
      exact ⟨rfl, rfl, H1.out.later e2⟩
abbrev rAm : List ByteArray → Option (Int × List ByteArray) := rNm 1099511627776
set_option maxRecDepth 100000 in
theorem ramt_any {w0 w : World} {b : Nat} {its : List It} {L : RdL} {ts : List ByteArray} (HR : RS w0 b its L ts w) :
    Calls Tryz.prog 101 #[.pointer (some ⟨b, 0, none⟩)] w fun e w' => match rAm ts with
      | none => e = panE 21 ∧ Heap w0 its w'
      | some (v, ts') => e = .returned (.int .i64 v) ∧ RS w0 b its L ts' w' := by
  have HN := Lib.hid (rnum_any HR 1099511627776)
  simp only [rAm]
  clear HR
  generalize rNm 1099511627776 ts = r at *
  go_enter Tryz.func101, Tryz.ntmps101
  go_wp2_with fail
  refine HN.out.mono ?_
  rintro e w1 h1
  cases r with
  | none =>
    obtain ⟨rfl, h1⟩ := h1
    exact ⟨rfl, rfl, h1⟩
  | some p =>
    obtain ⟨rfl, h1⟩ := h1
    have H1 := Lib.hid h1
    clear h1
    go_wp2_with fail
    go_ret
    exact ⟨rfl, H1.out⟩
set_option maxRecDepth 100000 in
set_option maxHeartbeats 4000000 in
theorem rdone_any {w0 w : World} {b : Nat} {its : List It} {L : RdL} {ts : List ByteArray} (HR : RS w0 b its L ts w) :
    Calls Tryz.prog 104 #[.pointer (some ⟨b, 0, none⟩)] w fun e w' => (if ts = [] then e = .returned (.tuple #[]) ∧ RS w0 b its L [] w' else e = panE 21) ∧ Heap w0 its w' := by
  by_cases h : ts = []
  · subst h
    have HT := Lib.hid HR
    obtain ⟨A, c, S, L', h1, h2, h3, h4, h5, h6, H⟩ := HR
    have HH := Lib.hid H
    clear H h1 h2 h3 h4 h5 h6
    go_enter Tryz.func104, Tryz.ntmps104
    go_wp2_with (refine shl_load1 HH.out rfl rfl rfl 0 rfl rfl (by decide +kernel) ?_)
    refine (wneed_true _ 21).mono ?_
    rintro e w1 ⟨rfl, rfl⟩
    go_wp2_with fail
    go_end0
    exact ⟨⟨rfl, HT.out⟩, HT.out.heap⟩
  · obtain ⟨A, c, S, L', h1, h2, h3, h4, h5, h6, H⟩ := HR
    have HH := Lib.hid H
    have hl : 0 < ts.length := List.length_pos_iff.2 h
    clear H h1 h2 h3 h4 h5 h6
    simp only [if_neg h]
    have hd : (((ts.length : Nat) : Int) == 0) = false := by simpa using h
    go_enter Tryz.func104, Tryz.ntmps104
    go_wp2_with (refine shl_load1 HH.out rfl rfl rfl 0 rfl rfl (by decide +kernel) ?_)
    refine (tneed_false _ 21).mono ?_
    rintro e w1 ⟨rfl, rfl⟩
    exact ⟨rfl, rfl, HH.out.tail.tail⟩
open Go.RowKit Go.Shelf
set_option linter.unusedVariables false
section
variable {P : Program} {ops : Array Oper} {l rest : List Oper} {Q : Exit → Act → World → Prop} {md : Region.Mode} {r n : Nat} {o : Oper} {a : Act} {w : World}
def calm (o : Oper) : Bool := match o.op with
  | .defer _ => false
  | _ => true
theorem calm_spec {o : Oper} (h : calm o = true) : ∀ c, o.op ≠ .defer c := fun c e => by rw [calm, e] at h; cases h
theorem rowsIn_of {row : String} {args : Array Value} {w : World} {R : Value → World → Prop} (h : Rows P row args w R) : RowsIn (Fence.wide.inRound r) n P row args w R :=
  fun c cs _ => let ⟨v, w', q, s⟩ := h c cs; ⟨v, w', q, stepsIn_wide.2 s⟩
theorem opIn_of {K : Act → World → Prop} (hc : calm o = true) (h : o.wp P a w K Q) : o.wpIn (Fence.wide.inRound r) n P a w K Q := by
  refine ⟨fun _ _ => trivial, ?_⟩
  rw [Oper.semAt_plain _ _ _ (calm_spec hc)]
  unfold Oper.wp at h
  generalize (execOp a.eval o).run P w = x at *
  cases x with
  | ok x w' =>
    cases x <;> simp only [Oper.upon, Oper.uponIn] at h ⊢
    case value v => exact h
    case skip => exact h
    case defer d => exact h
    case enter f args => exact ⟨fun h => by simp [Fence.wide] at h, CallsIn.inRound r (callsIn_wide.2 h)⟩
    case row row args => exact ⟨fun h => by simp [Fence.wide] at h, rowsIn_of h⟩
  | halt x w' => cases x <;> simp only [Oper.upon, Oper.uponIn] at h ⊢ <;> exact h
theorem listIn_of (hL : ¬ LetsOut Q) : ∀ (l : List Oper) (a : Act) (w : World), l.all calm = true → wpList P ops Q l a w → wpListIn (Fence.wide.inRound r) n P ops Q l a w
  | [], _, _, _, h => h
  | o :: l, a, w, hc, h => by
    rw [List.all_cons, Bool.and_eq_true] at hc
    simp only [wpList, wpListIn] at h ⊢
    split at h
    · rename_i hw
      rw [if_pos hw]
      rcases h with h | ⟨_, h⟩
      · exact opIn_of hc.1 (Oper.wp_mono (fun a w => listIn_of hL l a w hc.2) h)
      · exact absurd h hL
    · rename_i hw
      rw [if_neg hw]
      exact ⟨fun _ _ => trivial, listIn_of hL l _ _ hc.2 h⟩
theorem opAtIn_of (hL : ¬ LetsOut Q) (hc : ops.toList.all calm = true) {K : Act → World → Prop} {i : Nat} (h : wpOp P ops Q i K a w) : wpOpIn (Fence.wide.inRound r) n P ops Q i K a w := by
  unfold wpOp at h
  unfold wpOpIn
  cases ho : ops[i]? with
  | none => rw [ho] at h; exact h
  | some o =>
    rw [ho] at h
    simp only at h ⊢
    have hco : calm o = true := List.all_eq_true.1 hc o (by
      obtain ⟨hi, rfl⟩ := Array.getElem?_eq_some_iff.1 ho
      exact Array.getElem_mem_toList hi)
    split at h
    · rename_i hw
      rw [if_pos hw]
      rcases h with h | ⟨_, h⟩
      · exact opIn_of hco h
      · exact absurd h hL
    · rename_i hw
      rw [if_neg hw]
      exact ⟨fun _ _ => trivial, h⟩
theorem anyIn_of (hL : ¬ LetsOut Q) (hc : ops.toList.all calm = true) : ∀ (fuel : Nat) (listed : Array Bool) (a : Act) (w : World), wpAny P md ops Q fuel listed a w → wpAnyIn (Fence.wide.inRound r) n P md ops Q fuel listed a w
  | 0, _, _, _, h => h
  | fuel + 1, _, _, _, h => ⟨h.1, fun i hi => opAtIn_of hL hc (wpOp_mono (fun a w => anyIn_of hL hc fuel _ a w) (h.2 i hi))⟩
theorem regionIn {id : Nat} (hL : ¬ LetsOut Q) (hc : l.all calm = true) (h : wpList P l.toArray Q l a w) : (Code.region id l.toArray false).wpIn (Fence.wide.inRound r) n P Q a w :=
  wpIn_region_lit (listIn_of hL l a w hc h)
theorem regionInD {id : Nat} (hL : ¬ LetsOut Q) (hc : l.all calm = true) (hm : P.follows .mixedOrders = true) (h : wpAny P .any l.toArray Q l.toArray.size (Array.replicate l.toArray.size false) a w.drew) :
    (Code.region id l.toArray true).wpIn (Fence.wide.inRound r) n P Q a w :=
  wpIn_region_any hm (anyIn_of hL (by simpa using hc) _ _ _ _ h)
theorem rgnMIn {id : Nat} {S : World → Prop} (m : Nat → Bool) (hL : ¬ LetsOut Q) (hc : l.all calm = true) (hm : P.follows .mixedOrders = true) (hS : S w.drew) (h : S w.drew → wpAnyM P .any l.toArray Q S m l.toArray.size (Array.replicate l.toArray.size false) a w.drew) :
    (Code.region id l.toArray true).wpIn (Fence.wide.inRound r) n P Q a w :=
  regionInD hL hc hm (wpAny_of_M _ _ _ _ (h hS))
end
abbrev It.obj (b : Nat) (o : Obj) : It := .any (fun k => k = b) (fun w => w.heap[b]? = some o) (fun w k h e => by rw [e]; exact (Array.getElem?_eq_some_iff.1 h).1) (fun w w' _ hk h => (hk b rfl).trans h)
abbrev It.objs (f : Nat → Option Obj) : It := .any (fun k => (f k).isSome = true) (fun w => ∀ k o, f k = some o → w.heap[k]? = some o)
  (fun w k h e => by
    obtain ⟨o, ho⟩ := Option.isSome_iff_exists.1 e
    exact (Array.getElem?_eq_some_iff.1 (h k o ho)).1) (fun w w' _ hk h k o ho => (hk k (by rw [ho]; rfl)).trans (h k o ho))
def Calm (B : Nat) (x : It) : Prop := ∀ (base : Nat) (W : World) (k : Nat), x.holds base W → x.at' k → k < B ∨ ∃ o : Obj, W.heap[k]? = some o ∧ o.isCells = true
theorem calm_low {B : Nat} {S : Nat → Prop} {p : World → Prop} {lt keep} (h : ∀ k, S k → k < B) : Calm B (.any S p lt keep) := fun base W k _ ha => .inl (h k ha)
theorem walk_cells {o : Obj} (h : o.isWalk = true) (k : o.isCells = true) : False := by cases o <;> simp [Obj.isWalk, Obj.isCells] at h k
def KeepW (lo B : Nat) (W W' : World) : Prop := ∀ (k : Nat) (o : Obj), (k < lo ∨ B ≤ k) → W.heap[k]? = some o → o.isWalk = true → W'.heap[k]? = some o
section
variable {P : Program} {w0 w w' : World} {its : List It} {i : Nat}
theorem Heap.objAt {b : Nat} {o : Obj} (h : Heap w0 its w) (i : Nat) (hi : its[i]? = some (.obj b o)) : w.heap[b]? = some o := (h.all i _ hi).2
theorem Heap.addObj (h : Heap w0 its w) (o : Obj) : Heap w0 (.obj w.heap.size o :: its) (w.alloc o) :=
  h.add ((Ext.refl w).alloc o) ⟨fun k hk => by subst hk; exact h.ext.size, World.alloc_heap_new w o⟩ fun k hk => by cases hk; exact Nat.le_refl _
theorem keep_putObj (w : World) (b : Nat) (o : Obj) : Keep (fun k => k ≠ b) w (w.putObj b o) :=
  ⟨rfl, rfl, rfl, by simp, fun k _ hk => World.putObj_heap_other hk⟩
theorem Heap.putObj {b : Nat} {o : Obj} (h : Heap w0 its w) (i : Nat) (hi : its[i]? = some (.obj b o)) (o' : Obj) : Heap w0 (its.set i (.obj b o')) (w.putObj b o') :=
  h.upd hi ((keep_putObj w b o').mono fun k hk e => hk e) ⟨(h.all i _ hi).1, World.putObj_heap_same (Array.getElem?_eq_some_iff.1 (h.objAt i hi)).1⟩ (fun k hk => .inl hk) (fun k hk => .inl hk) fun k hk => (h.all i _ hi).1 k hk
theorem Heap.beside {x : It} (h : Heap w0 its w) (hx : x.holds w0.heap.size w) (hn : ∀ k, x.at' k → ∀ y ∈ its, ¬ y.at' k) : Heap w0 (x :: its) w := by
  refine ⟨h.ext, fun j y hy => ?_, fun j l y z k hjl hy hz ho hat => ?_⟩
  · cases j with
    | zero => cases hy; exact hx
    | succ j => exact h.all j y hy
  · cases j with
    | zero =>
      cases hy
      cases l with
      | zero => exact hjl rfl
      | succ l => exact hn k (It.own_at ho) z (List.mem_of_getElem? hz) hat
    | succ j =>
      cases l with
      | zero => cases hz; exact hn k hat y (List.mem_of_getElem? hy) (It.own_at ho)
      | succ l => exact h.apart j l y z k (fun e => hjl (by omega)) hy hz ho hat
theorem Heap.turned {B : Nat} {row : Option Nat} (h : Heap w0 its w) (hB : w0.heap.size ≤ B) (hc : ∀ x ∈ its, Calm B x) (hg : w.grownBy w' row) (hr : ∀ r, row = some r → B ≤ r ∧ ∃ o : Obj, w.heap[r]? = some o ∧ o.isWalk = true) : Heap w0 its w' := by
  refine ⟨Below.grown h.ext hg h.ext.size (fun k e => Nat.le_trans hB (hr k e).1), fun i x hx => ?_, h.apart⟩
  refine It.keeps (h.all i x hx) hg.size fun k hk => hg.block k (It.at_lt (h.all i x hx) hk) fun e => ?_
  obtain ⟨hb, o, ho, hw⟩ := hr k e.symm
  rcases hc x (List.mem_of_getElem? hx) _ _ k (h.all i x hx) hk with h1 | ⟨o', h1, h2⟩
  · omega
  · rw [ho] at h1
    cases h1
    exact walk_cells hw h2
theorem rangeH {α : Type} {N : Nat} {g : Operand} {ps : Array Tmp} {assign body : Code} {Q : Exit → Act → World → Prop} {a : Act} {gf : Nat} {lb : Array Value} {encs : α → Array Value} {ok : List α → α → Prop} {S : List α → Prop} (R : List α → List It → Prop) (turns : Bool)
    (hg : a.eval g = .func (.func gf) #[] lb) (eg : ∀ args w, (callFunc gf args).run P w = .ok (.enter gf args) w) (hps : ∀ x, (encs x).size = ps.size)
    (hcalm : turns = true → ∀ pre L, R pre L → ∀ x ∈ L, Calm w.heap.size x)
    (hseq : ∀ (l : Nat) (J : List α → World → Prop) (W : World), Ext w W → (∀ pre W, J pre W → ∃ x y L, R pre L ∧ Heap w0 (x :: y :: L) W) → (∀ pre W, J pre W → J pre W.drew) → (turns = true → AbidesFrom W.heap.size J) →
      (∀ pre x W1, J pre W1 → pre.length < N → ok pre x → YieldAt Fence.wide 0 P l (encs x) W1 fun e W' => e = .returned (.bool true) ∧ J (pre ++ [x]) W' ∧ (turns = true → KeepW w0.heap.size W.heap.size W1 W')) → J [] W →
      Calls P gf (#[.func (.yield l) #[] #[]] ++ lb) W fun e W' => (∃ v, e = .returned v) ∧ ∃ xs, S xs ∧ J xs W')
    {L0 : List It} (hR0 : R [] L0) (h0 : Heap w0 L0 w) (a₁ : α → Act)
    (hassign : ∀ (l : Nat) (x : α) (W : World) (K : Act → World → Prop), K (a₁ x) W →
      assign.wpIn (Fence.wide.inRound l) 0 P (Exit.then K (fun _ _ _ => False)) { tmps := (ps.zip (encs x)).foldl (fun t (p, v) => t.setIfInBounds p v) a.tmps, defers := [] } W)
    (hbody : ∀ (l : Nat) (pre : List α) (x : α) (y1 y2 y3 : It) (L : List It) (W : World), pre.length < N → ok pre x → R pre L → Heap w0 (y1 :: y2 :: y3 :: L) W → body.wpIn (Fence.wide.inRound l) 0 P (fun e _ W' => e = .normal ∧ ∃ L', R (pre ++ [x]) L' ∧ Heap w0 (y1 :: y2 :: y3 :: L') W') (a₁ x) W)
    (hdone : ∀ (D : Nat) (y : It) (xs : List α) (L : List It) (W : World), S xs → R xs L → Heap w0 (y :: .obj D (.deferred (some [])) :: L) W → Q .normal { a with defers := { target := .collected D, args := #[] } :: a.defers } W) :
    (Code.rangeFunc g ps assign body).wp P Q a w := by
  refine (wpIn_wide (n := 0)).1 (wpIn_rangeFunc ?_)
  intro fn _
  obtain ⟨rc, hrc⟩ : ∃ rc : LoopState → Option Code → Loop, rc = fun st pe => { state := st, pending := pe, fn, tmps := a.tmps, params := ps, assign, body, defers := w.heap.size } := ⟨_, rfl⟩
  obtain ⟨W1, hW1⟩ : ∃ W1, (w.alloc (.deferred (some []))).alloc (.loop (rc .ready none)) = W1 := ⟨_, rfl⟩
  have H1 : Heap w0 (.obj (w.heap.size + 1) (.loop (rc .ready none)) :: .obj w.heap.size (.deferred (some [])) :: L0) W1 := by
    have h := (h0.addObj (.deferred (some []))).addObj (.loop (rc .ready none))
    rw [← hW1]
    simpa only [World.size_alloc] using h
  have E1 : Ext w W1 := by rw [← hW1]; exact ((Ext.refl w).alloc _).alloc _
  have hs1 : W1.heap.size = w.heap.size + 1 + 1 := by rw [← hW1]; simp
  have hcl : turns = true → ∀ pre L, R pre L → ∀ o1 o2, ∀ x ∈ It.obj (w.heap.size + 1) o1 :: It.obj w.heap.size o2 :: L, Calm W1.heap.size x := fun ht pre L hL o1 o2 x hx => by
    rcases List.mem_cons.1 hx with rfl | hx
    · exact calm_low fun k e => by subst e; omega
    rcases List.mem_cons.1 hx with rfl | hx
    · exact calm_low fun k e => by subst e; omega
    intro base W k h ha
    rcases hcalm ht pre L hL x hx base W k h ha with h1 | h1
    · exact .inl (by omega)
    · exact .inr h1
  refine ⟨w.heap.size + 1, [{ target := .collected w.heap.size, args := #[] }], W1, { target := .fn (.func gf) lb, args := #[.func (.yield (w.heap.size + 1)) #[] #[]] }, W1, gf,
    #[.func (.yield (w.heap.size + 1)) #[] #[]] ++ lb, W1, ?_, ?_, ?_, ?_, fun h => by simp [Fence.wide] at h, ?_⟩
  · rw [← hW1, hrc]
    exact run_enterLoop_outer _ _ _ _ _
  · simp only [resolve, hg]
    simp [go_sem]
  · intro f' _
    trivial
  · simp [invoke, go_sem, eg]
  · refine callsIn_wide.2 ((hseq (w.heap.size + 1) (fun pre W => ∃ L, R pre L ∧ Heap w0 (.obj (w.heap.size + 1) (.loop (rc .ready none)) :: .obj w.heap.size (.deferred (some [])) :: L) W) W1 E1 (fun k W h => let ⟨L, h1, h2⟩ := h; ⟨_, _, L, h1, h2⟩) (fun k W h => let ⟨L, h1, h2⟩ := h; ⟨L, h1, h2.drew⟩) (fun ht pre A B row hA hgr hrow => let ⟨L, h1, h2⟩ := hA; ⟨L, h1, h2.turned (Nat.le_trans h0.ext.size E1.size) (hcl ht pre L h1 _ _) hgr hrow⟩) ?_ ⟨L0, hR0, H1⟩).mono ?_)
    · rintro pre x W ⟨L, hRL, H⟩ hk hok
      have hl := H.objAt 0 rfl
      have hy := run_yield (P := P) (args := encs x) hl (by rw [hrc]; exact hps x)
      rw [hrc] at hy
      refine ⟨fn, _, assign, body, hy, roundIn_of_wpIn trivial (hassign _ x W _ ?_)⟩
      clear hy
      refine ⟨_, run_beginRound hl (by rw [hrc]), ?_⟩
      have H2 := H.putObj 0 rfl (.loop { rc .ready none with state := .busy })
      obtain ⟨W2, hW2⟩ : ∃ W2, W.putObj (w.heap.size + 1) (.loop { rc .ready none with state := .busy }) = W2 := ⟨_, rfl⟩
      rw [hW2] at H2 ⊢
      have hother : ∀ k, k ≠ w.heap.size + 1 → W2.heap[k]? = W.heap[k]? := fun k hk => by rw [← hW2]; exact World.putObj_heap_other hk
      have hsz2 : W2.heap.size = W.heap.size := by rw [← hW2]; simp
      let f : Nat → Option Obj := fun k => if turns = true ∧ W1.heap.size ≤ k then (match W2.heap[k]? with
        | some o => if o.isWalk then some o else none
        | none => none) else none
      have hf : ∀ k o, f k = some o → turns = true ∧ W1.heap.size ≤ k ∧ W2.heap[k]? = some o ∧ o.isWalk = true := fun k o h => by
        simp only [f] at h
        split at h
        · rename_i hc
          split at h
          · rename_i o' ho'
            split at h
            · rename_i hw
              cases h
              exact ⟨hc.1, hc.2, ho', hw⟩
            · cases h
          · cases h
        · cases h
      have H3 := Heap.beside (x := .objs f) H2 ⟨fun k hk => by
          obtain ⟨o, ho⟩ := Option.isSome_iff_exists.1 hk
          have := (hf k o ho).2.1
          have := H1.ext.size
          omega, fun k o ho => (hf k o ho).2.2.1⟩ (fun k hk y hy hat => by
          obtain ⟨o, ho⟩ := Option.isSome_iff_exists.1 hk
          obtain ⟨ht, hle, ho2, hw⟩ := hf k o ho
          obtain ⟨j, hj⟩ := List.getElem?_of_mem hy
          rcases hcl ht pre L hRL _ _ y hy w0.heap.size W2 k (H2.all j y hj) hat with h1 | ⟨o', h1, h2⟩
          · omega
          · rw [ho2] at h1
            cases h1
            exact walk_cells hw h2)
      refine wpIn_mono (hbody _ pre x _ _ _ L W2 hk hok hRL H3) ?_
      rintro e a3 W3 ⟨rfl, L', hRL', H4⟩
      have H5 := H4.tail
      have hl3 := H5.objAt 0 rfl
      refine ⟨_, _, run_endRound (P := P) none hl3, rfl, ?_, fun ht => ?_⟩
      · have H6 := H5.putObj 0 rfl (.loop (rc .ready none))
        rw [hrc] at H6 ⊢
        exact ⟨L', hRL', H6⟩
      intro k o hk ho hw
      have hne : k ≠ w.heap.size + 1 := by
        have := h0.ext.size
        rcases hk with h | h
        · omega
        · omega
      have ho2 : W2.heap[k]? = some o := (hother k hne).trans ho
      have ho3 : W3.heap[k]? = some o := by
        rcases hk with h | h
        · exact ((H4.ext.block k h).trans (H2.ext.block k h).symm).trans ho2
        · refine (H4.all 0 _ rfl).2 k o ?_
          simp only [f]
          rw [if_pos ⟨ht, h⟩, ho2]
          simp only [hw, if_true]
      exact (World.putObj_heap_other hne).trans ho3
    · rintro e W2 ⟨⟨v, rfl⟩, xs, hS, L, hRL, H⟩
      have hl := H.objAt 0 rfl
      exact ⟨_, _, run_endLoop (P := P) hl (by rw [hrc]; simp), by
        simp only [hrc]
        exact hdone _ _ xs L _ hS hRL (H.putObj 0 rfl _)⟩
end
open Go.RowKit Go.Shelf
set_option linter.unusedVariables false
set_option linter.unusedSimpArgs false
attribute [local go_sem] Oper.semAt_some
def chV (A : Option Addr) (m n k : Nat) : Value := .slice (A.map (·.add (k * m))) (min m (n - k * m)) (min m (n - k * m))
def chN (m n : Nat) : Nat := (n + m - 1) / m
theorem chN_lt {m n k : Nat} (hm : 1 ≤ m) : k < chN m n ↔ k * m < n := by
  unfold chN
  rw [Nat.lt_div_iff_mul_lt hm]
  omega
theorem run_slice3 {P : Program} (w : World) (t e : TypeId) (inf : TypeInfo) (ht : P.underlying t = some (.slice e)) (hi : P.info? e = some inf) (hs : inf.size = 1) (A : Option Addr) (n c i j : Nat) (I J : Int) (hI : I = (i : Int)) (hJ : J = (j : Int)) (hij : i < j) (hj : j ≤ c) :
    (Instr.slice t (.slice A n c) (some (.int .i64 I)) (some (.int .i64 J)) (some (.int .i64 J))).run P w = .ok (.slice (A.map (·.add i)) (j - i) (j - i)) w := by
  subst hI
  subst hJ
  have hb : (Instr.sliceBounds true n c (some (.int .i64 (i : Int))) (some (.int .i64 (j : Int))) (some (.int .i64 (j : Int)))).run P w = .ok (i, j, j) w := by
    simp [Instr.sliceBounds, run_sliceBound (P := P) w .i64 (j : Int) c .slice3Acap (by omega) (by omega), run_sliceBound (P := P) w .i64 (j : Int) j .slice3B (by omega) (by omega), run_sliceBound (P := P) w .i64 (i : Int) j .slice3C (by omega) (by omega)]
  have hne : ¬ j = i := by omega
  simp [Instr.slice, run_underlying ht, hb, sizeOf, typeInfo, hi, hs, hne]
set_option maxRecDepth 100000 in
set_option maxHeartbeats 4000000 in
theorem chunk1_any (l bs bm : Nat) (A : Option Addr) (n c m : Nat) (hm : 1 ≤ m) (hM : m ≤ 1000000) (hN : n ≤ 100000000000) (hnc : n ≤ c) (J : List Nat → World → Prop)
    (hJ : ∀ pre W, J pre W → W.cell? ⟨bs, 0, none⟩ = some (.slice A n c) ∧ W.cell? ⟨bm, 0, none⟩ = some (.int .i64 (m : Int)))
    (hJd : ∀ pre W, J pre W → J pre W.drew)
    (hY : ∀ pre x W1, J pre W1 → pre.length < chN m n → x = pre.length → YieldAt Fence.wide 0 Tryz.prog l #[chV A m n x] W1 fun e W' => e = .returned (.bool true) ∧ J (pre ++ [x]) W')
    (W : World) (h0 : J [] W) :
    Calls Tryz.prog 221 #[.func (.yield l) #[] #[], .pointer (some ⟨bs, 0, none⟩), .pointer (some ⟨bm, 0, none⟩)] W fun e W' => (∃ v, e = .returned v) ∧ ∃ xs, xs = List.range (chN m n) ∧ J xs W' := by
  obtain ⟨i0, hi0, hz0, hz1, hz2⟩ := info_parts info5
  have HY := Lib.hid hY
  have HJ := Lib.hid hJ
  have HD := Lib.hid hJd
  clear hY hJ hJd
  refine (callsIn_wide (n := 1)).1 (callsIn_of_wp Tryz.func221 rfl trivial ?_ rfl)
  simp only [Tryz.ntmps221, List.size_toArray, List.length_cons, List.length_nil, Nat.reduceAdd, Nat.reduceSub, Array.replicate_succ, Array.replicate_zero, List.push_toArray, List.append_toArray, List.nil_append, List.cons_append]
  gi_wp2
  gi_loopw [4] (fun i wr => ∃ k : Nat, k ≤ chN m n ∧ i = .int .i64 ((k * m : Nat) : Int) ∧ J (List.range k) wr) (fun i _ => (chN m n) * m - (intOf i).toNat)
  case atStart => exact ⟨0, Nat.zero_le _, by simp, h0⟩
  case round =>
    obtain ⟨k, hk, rfl, hJs⟩ := hrel
    obtain ⟨c1, c2⟩ := HJ.out _ _ hJs
    by_cases hlt : k < chN m n
    · have hlt2 := (chN_lt (n := n) hm).1 hlt
      obtain ⟨fn, tmps, assign, body, hy, hR⟩ := HY.out _ k wr.drew (HD.out _ _ hJs) (by simpa using hlt) (by simp)
      have hs1 := fun W => run_slice_from (P := Tryz.prog) W 53 5 i0 1 Tryz.underlying53 hi0 hz1 A n c (k * m) _ rfl (by omega)
      have hmin := Lib.hid (show (if n - k * m < m then ((n - k * m : Nat) : Int) else (m : Int)) = ((min m (n - k * m) : Nat) : Int) by
        split <;> omega)
      have hminb := Lib.hid (show min (m : Int) ((n - k * m : Nat) : Int) = ((min m (n - k * m) : Nat) : Int) by omega)
      simp only [chV] at hy
      have hq1 : 1 ≤ min m (n - k * m) := by omega
      have hq2 : min m (n - k * m) ≤ n - k * m := Nat.min_le_right _ _
      have hq3 : min m (n - k * m) ≤ m := Nat.min_le_left _ _
      have hle : k * m + m ≤ chN m n * m := by
        have : (k + 1) * m ≤ chN m n * m := Nat.mul_le_mul_right _ hlt
        rw [Nat.succ_mul] at this
        exact this
      have hchN : chN m n * m ≤ n + m := by
        have h1 := Nat.div_mul_le_self (n + m - 1) m
        show (n + m - 1) / m * m ≤ n + m
        omega
      gi_wp2
      gi_region
      (try simp only [hmin.out])
      (try simp only [hminb.out])
      generalize hq : min m (n - k * m) = q at *
      clear hmin hminb hq hs1
      have hs3 := fun W => run_slice3 (P := Tryz.prog) W 53 5 i0 Tryz.underlying53 hi0 hz1 A n c (k * m) (k * m + q) ((k * m : Nat) : Int) (((k * m : Nat) : Int) + (q : Int)) rfl (by omega) (by omega) (by omega)
      rw [show k * m + q - k * m = q by omega] at hs3
      generalize hkm : k * m = km at *
      have c1' : wr.drew.cell? { block := bs, off := 0 } = some (Value.slice A n c) := c1
      have c2' : wr.drew.cell? { block := bm, off := 0 } = some (Value.int IntKind.i64 ↑m) := c2
      gi_wp2
      refine hR.mono ?_
      rintro e W3 ⟨rfl, hJ3⟩
      obtain ⟨d1, d2⟩ := HJ.out _ _ hJ3
      gi_wp2
      go_roundw
      case rel => exact ⟨k + 1, by omega, by rw [← hkm]; congr 1; rw [Nat.succ_mul]; omega, by rw [List.range_succ]; exact hJ3⟩
      case measure => simp [intOf]; omega
    · obtain rfl : k = chN m n := by omega
      have hge : n ≤ chN m n * m := by
        rcases Nat.lt_or_ge (chN m n * m) n with h | h
        · exact absurd ((chN_lt hm).2 h) (by omega)
        · exact h
      gi_wp2
      go_end0
      exact ⟨⟨_, rfl⟩, _, rfl, hJs⟩
set_option maxRecDepth 100000 in
set_option maxHeartbeats 1000000 in
theorem chunk_any (w : World) (A : Option Addr) (n c m : Nat) (hm : 1 ≤ m) (hM : m ≤ 1000000) :
    Calls Tryz.prog 193 #[.slice A n c, .int .i64 (m : Int)] w fun e w' => e = .returned (.func (.func 221) #[] #[.pointer (some ⟨w.heap.size, 0, none⟩), .pointer (some ⟨w.heap.size + 1, 0, none⟩)]) ∧ w' = (w.alloc (.cells #[.slice A n c] 53)).alloc (.cells #[.int .i64 (m : Int)] 3) := by
  go_enter Tryz.func193, Tryz.ntmps193
  go_wp2_with fail
  go_ret
  exact ⟨rfl, rfl⟩
theorem chunk_seq {w0 w : World} {R : List Nat → List It → Prop} {A : Option Addr} {n c m bs bm : Nat} (hm : 1 ≤ m) (hM : m ≤ 1000000) (hN : n ≤ 100000000000) (hnc : n ≤ c)
    (hcells : ∀ pre L, R pre L → ∀ W x y, Heap w0 (x :: y :: L) W → W.cell? ⟨bs, 0, none⟩ = some (.slice A n c) ∧ W.cell? ⟨bm, 0, none⟩ = some (.int .i64 (m : Int))) :
    ∀ (l : Nat) (J : List Nat → World → Prop) (W : World), Ext w W → (∀ pre W, J pre W → ∃ x y L, R pre L ∧ Heap w0 (x :: y :: L) W) → (∀ pre W, J pre W → J pre W.drew) → (false = true → AbidesFrom W.heap.size J) →
      (∀ pre x W1, J pre W1 → pre.length < chN m n → x = pre.length → YieldAt Fence.wide 0 Tryz.prog l #[chV A m n x] W1 fun e W' => e = .returned (.bool true) ∧ J (pre ++ [x]) W' ∧ (false = true → KeepW w0.heap.size W.heap.size W1 W')) → J [] W →
      Calls Tryz.prog 221 (#[.func (.yield l) #[] #[]] ++ #[.pointer (some ⟨bs, 0, none⟩), .pointer (some ⟨bm, 0, none⟩)]) W fun e W' => (∃ v, e = .returned v) ∧ ∃ xs, xs = List.range (chN m n) ∧ J xs W' :=
  fun l J W _ hJ hJd _ hY h0 => chunk1_any l bs bm A n c m hm hM hN hnc J (fun pre W h => by
    obtain ⟨x, y, L, hL, H⟩ := hJ pre W h
    exact hcells pre L hL W x y H) hJd (fun pre x W1 h1 h2 h3 => (hY pre x W1 h1 h2 h3).mono fun e W' h => ⟨h.1, h.2.1⟩) W h0
open Go.RowKit Go.Shelf
set_option linter.unusedVariables false
set_option linter.unusedSimpArgs false
attribute [local go_sem] Oper.semAt_some
set_option maxRecDepth 100000 in
set_option maxHeartbeats 4000000 in
theorem chunk1_str (l bs bm : Nat) (A : Option Addr) (n c m : Nat) (hm : 1 ≤ m) (hM : m ≤ 1000000) (hN : n ≤ 100000000000) (hnc : n ≤ c) (J : List Nat → World → Prop)
    (hJ : ∀ pre W, J pre W → W.cell? ⟨bs, 0, none⟩ = some (.slice A n c) ∧ W.cell? ⟨bm, 0, none⟩ = some (.int .i64 (m : Int)))
    (hJd : ∀ pre W, J pre W → J pre W.drew)
    (hY : ∀ pre x W1, J pre W1 → pre.length < chN m n → x = pre.length → YieldAt Fence.wide 0 Tryz.prog l #[chV A m n x] W1 fun e W' => e = .returned (.bool true) ∧ J (pre ++ [x]) W')
    (W : World) (h0 : J [] W) :
    Calls Tryz.prog 208 #[.func (.yield l) #[] #[], .pointer (some ⟨bs, 0, none⟩), .pointer (some ⟨bm, 0, none⟩)] W fun e W' => (∃ v, e = .returned v) ∧ ∃ xs, xs = List.range (chN m n) ∧ J xs W' := by
  obtain ⟨i0, hi0, hz0, hz1, hz2⟩ := info_parts info9
  have HY := Lib.hid hY
  have HJ := Lib.hid hJ
  have HD := Lib.hid hJd
  clear hY hJ hJd
  refine (callsIn_wide (n := 1)).1 (callsIn_of_wp Tryz.func208 rfl trivial ?_ rfl)
  simp only [Tryz.ntmps208, List.size_toArray, List.length_cons, List.length_nil, Nat.reduceAdd, Nat.reduceSub, Array.replicate_succ, Array.replicate_zero, List.push_toArray, List.append_toArray, List.nil_append, List.cons_append]
  gi_wp2
  gi_loopw [4] (fun i wr => ∃ k : Nat, k ≤ chN m n ∧ i = .int .i64 ((k * m : Nat) : Int) ∧ J (List.range k) wr) (fun i _ => (chN m n) * m - (intOf i).toNat)
  case atStart => exact ⟨0, Nat.zero_le _, by simp, h0⟩
  case round =>
    obtain ⟨k, hk, rfl, hJs⟩ := hrel
    obtain ⟨c1, c2⟩ := HJ.out _ _ hJs
    by_cases hlt : k < chN m n
    · have hlt2 := (chN_lt (n := n) hm).1 hlt
      obtain ⟨fn, tmps, assign, body, hy, hR⟩ := HY.out _ k wr.drew (HD.out _ _ hJs) (by simpa using hlt) (by simp)
      have hs1 := fun W => run_slice_from (P := Tryz.prog) W 109 9 i0 1 Tryz.underlying109 hi0 hz1 A n c (k * m) _ rfl (by omega)
      have hmin := Lib.hid (show (if n - k * m < m then ((n - k * m : Nat) : Int) else (m : Int)) = ((min m (n - k * m) : Nat) : Int) by
        split <;> omega)
      have hminb := Lib.hid (show min (m : Int) ((n - k * m : Nat) : Int) = ((min m (n - k * m) : Nat) : Int) by omega)
      simp only [chV] at hy
      have hq1 : 1 ≤ min m (n - k * m) := by omega
      have hq2 : min m (n - k * m) ≤ n - k * m := Nat.min_le_right _ _
      have hq3 : min m (n - k * m) ≤ m := Nat.min_le_left _ _
      have hle : k * m + m ≤ chN m n * m := by
        have : (k + 1) * m ≤ chN m n * m := Nat.mul_le_mul_right _ hlt
        rw [Nat.succ_mul] at this
        exact this
      have hchN : chN m n * m ≤ n + m := by
        have h1 := Nat.div_mul_le_self (n + m - 1) m
        show (n + m - 1) / m * m ≤ n + m
        omega
      gi_wp2
      gi_region
      (try simp only [hmin.out])
      (try simp only [hminb.out])
      generalize hq : min m (n - k * m) = q at *
      clear hmin hminb hq hs1
      have hs3 := fun W => run_slice3 (P := Tryz.prog) W 109 9 i0 Tryz.underlying109 hi0 hz1 A n c (k * m) (k * m + q) ((k * m : Nat) : Int) (((k * m : Nat) : Int) + (q : Int)) rfl (by omega) (by omega) (by omega)
      rw [show k * m + q - k * m = q by omega] at hs3
      generalize hkm : k * m = km at *
      have c1' : wr.drew.cell? { block := bs, off := 0 } = some (Value.slice A n c) := c1
      have c2' : wr.drew.cell? { block := bm, off := 0 } = some (Value.int IntKind.i64 ↑m) := c2
      gi_wp2
      refine hR.mono ?_
      rintro e W3 ⟨rfl, hJ3⟩
      obtain ⟨d1, d2⟩ := HJ.out _ _ hJ3
      gi_wp2
      go_roundw
      case rel => exact ⟨k + 1, by omega, by rw [← hkm]; congr 1; rw [Nat.succ_mul]; omega, by rw [List.range_succ]; exact hJ3⟩
      case measure => simp [intOf]; omega
    · obtain rfl : k = chN m n := by omega
      have hge : n ≤ chN m n * m := by
        rcases Nat.lt_or_ge (chN m n * m) n with h | h
        · exact absurd ((chN_lt hm).2 h) (by omega)
        · exact h
      gi_wp2
      go_end0
      exact ⟨⟨_, rfl⟩, _, rfl, hJs⟩
set_option maxRecDepth 100000 in
set_option maxHeartbeats 1000000 in
theorem chunk_str (w : World) (A : Option Addr) (n c m : Nat) (hm : 1 ≤ m) (hM : m ≤ 1000000) :
    Calls Tryz.prog 174 #[.slice A n c, .int .i64 (m : Int)] w fun e w' => e = .returned (.func (.func 208) #[] #[.pointer (some ⟨w.heap.size, 0, none⟩), .pointer (some ⟨w.heap.size + 1, 0, none⟩)]) ∧ w' = (w.alloc (.cells #[.slice A n c] 109)).alloc (.cells #[.int .i64 (m : Int)] 3) := by
  go_enter Tryz.func174, Tryz.ntmps174
  go_wp2_with fail
  go_ret
  exact ⟨rfl, rfl⟩
theorem chunk_seqS {w0 w : World} {R : List Nat → List It → Prop} {A : Option Addr} {n c m bs bm : Nat} (hm : 1 ≤ m) (hM : m ≤ 1000000) (hN : n ≤ 100000000000) (hnc : n ≤ c)
    (hcells : ∀ pre L, R pre L → ∀ W x y, Heap w0 (x :: y :: L) W → W.cell? ⟨bs, 0, none⟩ = some (.slice A n c) ∧ W.cell? ⟨bm, 0, none⟩ = some (.int .i64 (m : Int))) :
    ∀ (l : Nat) (J : List Nat → World → Prop) (W : World), Ext w W → (∀ pre W, J pre W → ∃ x y L, R pre L ∧ Heap w0 (x :: y :: L) W) → (∀ pre W, J pre W → J pre W.drew) → (false = true → AbidesFrom W.heap.size J) →
      (∀ pre x W1, J pre W1 → pre.length < chN m n → x = pre.length → YieldAt Fence.wide 0 Tryz.prog l #[chV A m n x] W1 fun e W' => e = .returned (.bool true) ∧ J (pre ++ [x]) W' ∧ (false = true → KeepW w0.heap.size W.heap.size W1 W')) → J [] W →
      Calls Tryz.prog 208 (#[.func (.yield l) #[] #[]] ++ #[.pointer (some ⟨bs, 0, none⟩), .pointer (some ⟨bm, 0, none⟩)]) W fun e W' => (∃ v, e = .returned v) ∧ ∃ xs, xs = List.range (chN m n) ∧ J xs W' :=
  fun l J W _ hJ hJd _ hY h0 => chunk1_str l bs bm A n c m hm hM hN hnc J (fun pre W h => by
    obtain ⟨x, y, L, hL, H⟩ := hJ pre W h
    exact hcells pre L hL W x y H) hJd (fun pre x W1 h1 h2 h3 => (hY pre x W1 h1 h2 h3).mono fun e W' h => ⟨h.1, h.2.1⟩) W h0
open Go.RowKit
theorem infoP : (Tryz.prog.info? 160).map (fun i => (i.zero, i.size, i.bytes)) = some (some (.agg #[.string .empty, .string .empty]), 2, 32) := by kernel_rfl
end Go.Proofs.YtckaneapjpiocaaGreatDoor
