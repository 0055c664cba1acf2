/- The walks of Text and Lines, of both texts. -/
import Derived.Test.YtehdfiiflhpoiaaEnt
import Derived.Test.YtehdfiiflhpoiaaDig
namespace Go.Proofs.Ytehdfiiflhpoiaa
open Go.RowKit

def sp : ByteArray := ⟨#[32]⟩
theorem sp_size : sp.size = 1 := rfl
def text (x : Ent) : ByteArray := x.user ++ ⟨#[32]⟩ ++ dec x.kind ++ ⟨#[32]⟩ ++ x.path ++ ⟨#[32]⟩ ++ dec x.err
theorem text_size (x : Ent) : (text x).size ≤ x.user.size + x.path.size + 45 := by
  have h1 := dec_size x.kind
  have h2 := dec_size x.err
  have h3 : (⟨#[32]⟩ : ByteArray).size = 1 := rfl
  simp only [text, ByteArray.size_append]
  omega

set_option maxHeartbeats 1000000 in
theorem text_a_any (x : Ent) (w : World) (hx : x.wf) (hs : x.user.size + x.path.size ≤ 4611686018427387904) : Calls Try.prog 10 #[.agg #[.string x.user, .int .i64 x.kind, .string x.path, .int .i64 x.err]] w fun e w' => e = .returned (.string (text x)) ∧ Ext w w' := by
  obtain ⟨x1, x2, x3, x4⟩ := hx
  have h1 := dec_size x.kind
  have h2 := dec_size x.err
  have h3 : (⟨#[32]⟩ : ByteArray).size ≤ 1 := Nat.le_refl 1
  have a1 : ¬ 9223372036854775807 < x.user.size + 1 := by omega
  have a2 : ¬ 9223372036854775807 < x.user.size + 1 + (dec x.kind).size := by omega
  have a3 : ¬ 9223372036854775807 < x.user.size + 1 + (dec x.kind).size + 1 := by omega
  have a4 : ¬ 9223372036854775807 < x.user.size + 1 + (dec x.kind).size + 1 + x.path.size := by omega
  have a5 : ¬ 9223372036854775807 < x.user.size + 1 + (dec x.kind).size + 1 + x.path.size + 1 := by omega
  have a6 : ¬ 9223372036854775807 < x.user.size + 1 + (dec x.kind).size + 1 + x.path.size + 1 + (dec x.err).size := by omega
  go_enter Try.func10, Try.ntmps10
  go_wp2_with fail
  generalize hw1 : World.alloc w _ = w1; obtain ⟨ew1, zw1, Gw1⟩ := box_cells hw1; have gw1_0 := Gw1 0 _ rfl; have gw1_1 := Gw1 1 _ rfl; have gw1_2 := Gw1 2 _ rfl; have gw1_3 := Gw1 3 _ rfl; have Zw1 := Lib.hid zw1; clear zw1 hw1 Gw1
  go_region_held3 (fun w' => Ext w1 w') (first | (repeat (first | exact Below.refl _ _ | exact Ext.refl _ | assumption | refine Below.drew ?_ | refine below_drewN ?_ _ | refine below_alloc ?_ (by first | exact Nat.le_refl _ | assumption | (simp; done) | omega | (simp; omega)) _ | refine below_ext ?_ (by assumption) (by first | exact Nat.le_refl _ | assumption | (simp; done) | omega | (simp; omega)) | refine Ext.drew ?_ | refine Ext.drewN ?_ _ | refine Ext.alloc ?_ _ | refine Ext.setCell ?_ (by first | assumption | (simp; done) | (simp; omega)) _ | refine Below.setCell ?_ (by first | assumption | (simp; done) | (simp; omega)) _ | refine Ext.trans ?_ (by assumption))) | (trace_state; fail))
    (first
      | (go_at_call 17; refine (decimal_a_any _ _ (by assumption) (by assumption)).mono ?_; rintro e w2 ⟨rfl, e2⟩))
  go_wp2_with fail
  go_ret
  exact ⟨rfl, by (repeat (first | exact Below.refl _ _ | exact Ext.refl _ | assumption | refine Below.drew ?_ | refine below_drewN ?_ _ | refine below_alloc ?_ (by first | exact Nat.le_refl _ | assumption | (simp; done) | omega | (simp; omega)) _ | refine below_ext ?_ (by assumption) (by first | exact Nat.le_refl _ | assumption | (simp; done) | omega | (simp; omega)) | refine Ext.drew ?_ | refine Ext.drewN ?_ _ | refine Ext.alloc ?_ _ | refine Ext.setCell ?_ (by first | assumption | (simp; done) | (simp; omega)) _ | refine Below.setCell ?_ (by first | assumption | (simp; done) | (simp; omega)) _ | refine Ext.trans ?_ (by assumption)))⟩
set_option maxHeartbeats 1000000 in
theorem text_r_any (x : Ent) (w : World) (hx : x.wf) (hs : x.user.size + x.path.size ≤ 4611686018427387904) : Calls Try.prog 11 #[.agg #[.string x.user, .int .i64 x.kind, .string x.path, .int .i64 x.err]] w fun e w' => e = .returned (.string (text x)) ∧ Ext w w' := by
  obtain ⟨x1, x2, x3, x4⟩ := hx
  have h1 := dec_size x.kind
  have h2 := dec_size x.err
  have h3 : (⟨#[32]⟩ : ByteArray).size ≤ 1 := Nat.le_refl 1
  have a1 : ¬ 9223372036854775807 < x.user.size + 1 := by omega
  have a2 : ¬ 9223372036854775807 < x.user.size + 1 + (dec x.kind).size := by omega
  have a3 : ¬ 9223372036854775807 < x.user.size + 1 + (dec x.kind).size + 1 := by omega
  have a4 : ¬ 9223372036854775807 < x.user.size + 1 + (dec x.kind).size + 1 + x.path.size := by omega
  have a5 : ¬ 9223372036854775807 < x.user.size + 1 + (dec x.kind).size + 1 + x.path.size + 1 := by omega
  have a6 : ¬ 9223372036854775807 < x.user.size + 1 + (dec x.kind).size + 1 + x.path.size + 1 + (dec x.err).size := by omega
  go_enter Try.func11, Try.ntmps11
  go_wp2_with fail
  generalize hw1 : World.alloc w _ = w1; obtain ⟨ew1, zw1, Gw1⟩ := box_cells hw1; have gw1_0 := Gw1 0 _ rfl; have gw1_1 := Gw1 1 _ rfl; have gw1_2 := Gw1 2 _ rfl; have gw1_3 := Gw1 3 _ rfl; have Zw1 := Lib.hid zw1; clear zw1 hw1 Gw1
  go_region_held3 (fun w' => Ext w1 w') (first | (repeat (first | exact Below.refl _ _ | exact Ext.refl _ | assumption | refine Below.drew ?_ | refine below_drewN ?_ _ | refine below_alloc ?_ (by first | exact Nat.le_refl _ | assumption | (simp; done) | omega | (simp; omega)) _ | refine below_ext ?_ (by assumption) (by first | exact Nat.le_refl _ | assumption | (simp; done) | omega | (simp; omega)) | refine Ext.drew ?_ | refine Ext.drewN ?_ _ | refine Ext.alloc ?_ _ | refine Ext.setCell ?_ (by first | assumption | (simp; done) | (simp; omega)) _ | refine Below.setCell ?_ (by first | assumption | (simp; done) | (simp; omega)) _ | refine Ext.trans ?_ (by assumption))) | (trace_state; fail))
    (first
      | (go_at_call 18; refine (decimal_r_any _ _ (by assumption) (by assumption)).mono ?_; rintro e w2 ⟨rfl, e2⟩))
  go_wp2_with fail
  go_ret
  exact ⟨rfl, by (repeat (first | exact Below.refl _ _ | exact Ext.refl _ | assumption | refine Below.drew ?_ | refine below_drewN ?_ _ | refine below_alloc ?_ (by first | exact Nat.le_refl _ | assumption | (simp; done) | omega | (simp; omega)) _ | refine below_ext ?_ (by assumption) (by first | exact Nat.le_refl _ | assumption | (simp; done) | omega | (simp; omega)) | refine Ext.drew ?_ | refine Ext.drewN ?_ _ | refine Ext.alloc ?_ _ | refine Ext.setCell ?_ (by first | assumption | (simp; done) | (simp; omega)) _ | refine Below.setCell ?_ (by first | assumption | (simp; done) | (simp; omega)) _ | refine Ext.trans ?_ (by assumption)))⟩

theorem info9 : (Try.prog.info? 9).map (fun i => (i.zero, i.size, i.bytes)) = some (some (.string .empty), 1, 16) := by kernel_rfl
def texts (xs : List Ent) : List Value := xs.map fun x => .string (text x)
theorem texts_snoc (xs : List Ent) (k : Nat) (hk : k < xs.length) : texts (xs.take (k + 1)) = texts (xs.take k) ++ [.string (text xs[k])] := by
  rw [List.take_succ_eq_append_getElem hk, texts, texts, List.map_append]
  rfl

set_option maxHeartbeats 1000000 in
theorem lines_a (w : World) (A : Option Addr) (n c : Nat) (xs : List Ent) (hn : n = xs.length) (hr : Rd w 0 w.heap.size A (ents xs)) (hb : n * 48 ≤ 140737488355328) (hwf : ∀ x ∈ xs, x.wf ∧ x.user.size + x.path.size ≤ 4611686018427387904) :
    Calls Try.prog 13 #[.slice A n c] w fun e w' => ∃ v, e = .returned v ∧ w'.ownsRow w.heap.size 9 1 v n (texts xs) ∧ Ext w w' := by
  obtain ⟨i0, hi0, hz0, hz1, hz2⟩ := info_parts info9
  have hmk := fun W => run_make (P := Try.prog) W 32 9 i0 _ Try.underlying32 hi0 hz0 .i64 .i64 0 n (by omega) (by omega) (by rw [hz2]; omega) (by omega)
  rw [hz1] at hmk
  simp only [Int.toNat_natCast, Int.toNat_zero, Nat.mul_one] at hmk
  have Hn := Lib.hid hn
  clear hn
  go_enter Try.func13, Try.ntmps13
  go_wp2_with fail
  have hown : (w.alloc (Obj.cells (madeCells #[Value.string .empty] n) 9)).ownsRow w.heap.size 9 1 (.slice (some ⟨w.heap.size, 0, none⟩) 0 n) 0 [] := World.ownsRow_made w _ n (Nat.le_refl _) (by simp only [maxLen]; omega) (by rw [size_madeCells]; omega)
  clear hmk
  generalize hw1 : World.alloc w _ = w1 at *
  obtain ⟨e1, _, _⟩ := box_cells hw1
  clear hw1
  go_loopw [3, 11] (fun v i wr => ∃ k : Nat, k ≤ n ∧ i = .int .i64 k ∧ wr.ownsRow w.heap.size 9 1 v k (texts (xs.take k)) ∧ Ext w wr) (fun _ i _ => n - (intOf i).toNat)
  case atStart => exact ⟨0, Nat.zero_le _, rfl, hown, e1⟩
  case round =>
    clear hown e1
    obtain ⟨k, hk, rfl, hown, e3⟩ := hrel
    by_cases hlt : k < n
    · obtain ⟨b1, o1, rfl, _, _, f0, f1, f2, f3⟩ := rd_ent (hr.at (w' := wr) (by (repeat (first | exact Below.refl _ _ | exact Ext.refl _ | assumption | refine Below.drew ?_ | refine below_drewN ?_ _ | refine below_alloc ?_ (by first | exact Nat.le_refl _ | assumption | (simp; done) | omega | (simp; omega)) _ | refine below_ext ?_ (by assumption) (by first | exact Nat.le_refl _ | assumption | (simp; done) | omega | (simp; omega)) | refine Ext.drew ?_ | refine Ext.drewN ?_ _ | refine Ext.alloc ?_ _ | refine Ext.setCell ?_ (by first | assumption | (simp; done) | (simp; omega)) _ | refine Below.setCell ?_ (by first | assumption | (simp; done) | (simp; omega)) _ | refine Ext.trans ?_ (by assumption)))) (Nat.le_refl _)) (k := k) (by rw [← Hn.out]; omega)
      have hy := hwf xs[k] (List.getElem_mem _)
      have htx := Lib.hid (texts_snoc xs k (by rw [← Hn.out]; omega))
      generalize xs[k]'(by rw [← Hn.out]; omega) = y at *
      go_wp2_with fail
      generalize hwx : World.alloc wr _ = wx
      obtain ⟨ex, _, _⟩ := box_cells hwx
      clear hwx f0 f1 f2 f3
      refine (text_a_any y wx hy.1 hy.2).mono ?_
      rintro e w2 ⟨rfl, e2⟩
      have own2 := own_ext (own_ext hown ex) e2
      have e4 : Ext w w2 := by (repeat (first | exact Below.refl _ _ | exact Ext.refl _ | assumption | refine Below.drew ?_ | refine below_drewN ?_ _ | refine below_alloc ?_ (by first | exact Nat.le_refl _ | assumption | (simp; done) | omega | (simp; omega)) _ | refine below_ext ?_ (by assumption) (by first | exact Nat.le_refl _ | assumption | (simp; done) | omega | (simp; omega)) | refine Ext.drew ?_ | refine Ext.drewN ?_ _ | refine Ext.alloc ?_ _ | refine Ext.setCell ?_ (by first | assumption | (simp; done) | (simp; omega)) _ | refine Below.setCell ?_ (by first | assumption | (simp; done) | (simp; omega)) _ | refine Ext.trans ?_ (by assumption)))
      clear hown ex e2 e3
      go_wp2_with
        (at_builtin
         refine wpList_append_any _ rfl (.tmp 15) (.tmp 18) _ rfl w.heap.size 9 i0 _ 1 16 Try.underlying32 hi0 hz0 hz1 hz2 rfl (by omega) _ k _ rfl (own2.alloc _) 0 _ _ 1 1 [.string (text y)] rfl rfl
           ((rd_new _ _ _).more (Nat.zero_le _) (Nat.le_refl _)) (by simp [Value.oneCell']) (by simp only [maxLen]; omega) (by omega) (by have := e4.size; simp; omega) ?_
         intro v3 w3 hown3 hg3 hat3
         have e5 : Ext w w3 := ext_grown (e4.alloc _) (own2.alloc _) hg3 (Nat.le_refl _)
         clear hg3 hat3 own2 e4)
      go_roundw
      case rel => exact ⟨k + 1, by omega, by go_num, by rw [htx.out]; exact hown3, e5⟩
      case measure => simp [intOf]; omega
    · go_wp2_with fail
      obtain rfl : k = n := by omega
      go_ret
      exact ⟨_, rfl, by rw [List.take_of_length_le (by rw [← Hn.out]; exact Nat.le_refl _)] at hown; exact hown, e3⟩

set_option maxHeartbeats 1000000 in
theorem lines_r (w : World) (A : Option Addr) (n c : Nat) (xs : List Ent) (hn : n = xs.length) (hr : Rd w 0 w.heap.size A (ents xs)) (hb : n * 48 ≤ 140737488355328) (hwf : ∀ x ∈ xs, x.wf ∧ x.user.size + x.path.size ≤ 4611686018427387904) :
    Calls Try.prog 14 #[.slice A n c] w fun e w' => ∃ v, e = .returned v ∧ w'.ownsRow w.heap.size 9 1 v n (texts xs) ∧ Ext w w' := by
  obtain ⟨i0, hi0, hz0, hz1, hz2⟩ := info_parts info9
  have Hn := Lib.hid hn
  clear hn
  go_enter Try.func14, Try.ntmps14
  go_wp2_with fail
  go_loopw [3, 4] (fun v i wr => ∃ k : Nat, k ≤ n ∧ i = .int .i64 k ∧ wr.ownsRow w.heap.size 9 1 v k (texts (xs.take k)) ∧ Ext w wr) (fun _ i _ => n - (intOf i).toNat)
  case atStart => exact ⟨0, Nat.zero_le _, rfl, World.ownsRow_nil _ _ _ _, Ext.refl _⟩
  case round =>
    obtain ⟨k, hk, rfl, hown, e3⟩ := hrel
    by_cases hlt : k < n
    · obtain ⟨b1, o1, rfl, _, _, f0, f1, f2, f3⟩ := rd_ent (hr.at (w' := wr) (by (repeat (first | exact Below.refl _ _ | exact Ext.refl _ | assumption | refine Below.drew ?_ | refine below_drewN ?_ _ | refine below_alloc ?_ (by first | exact Nat.le_refl _ | assumption | (simp; done) | omega | (simp; omega)) _ | refine below_ext ?_ (by assumption) (by first | exact Nat.le_refl _ | assumption | (simp; done) | omega | (simp; omega)) | refine Ext.drew ?_ | refine Ext.drewN ?_ _ | refine Ext.alloc ?_ _ | refine Ext.setCell ?_ (by first | assumption | (simp; done) | (simp; omega)) _ | refine Below.setCell ?_ (by first | assumption | (simp; done) | (simp; omega)) _ | refine Ext.trans ?_ (by assumption)))) (Nat.le_refl _)) (k := k) (by rw [← Hn.out]; omega)
      have hy := hwf xs[k] (List.getElem_mem _)
      have htx := Lib.hid (texts_snoc xs k (by rw [← Hn.out]; omega))
      generalize xs[k]'(by rw [← Hn.out]; omega) = y at *
      go_wp2_with fail
      clear f0 f1 f2 f3
      refine (text_r_any y wr hy.1 hy.2).mono ?_
      rintro e w2 ⟨rfl, e2⟩
      have own2 := own_ext hown e2
      have e4 : Ext w w2 := by (repeat (first | exact Below.refl _ _ | exact Ext.refl _ | assumption | refine Below.drew ?_ | refine below_drewN ?_ _ | refine below_alloc ?_ (by first | exact Nat.le_refl _ | assumption | (simp; done) | omega | (simp; omega)) _ | refine below_ext ?_ (by assumption) (by first | exact Nat.le_refl _ | assumption | (simp; done) | omega | (simp; omega)) | refine Ext.drew ?_ | refine Ext.drewN ?_ _ | refine Ext.alloc ?_ _ | refine Ext.setCell ?_ (by first | assumption | (simp; done) | (simp; omega)) _ | refine Below.setCell ?_ (by first | assumption | (simp; done) | (simp; omega)) _ | refine Ext.trans ?_ (by assumption)))
      clear hown e2 e3
      go_wp2_with
        (at_builtin
         refine wpList_append_any _ rfl (.tmp 11) (.tmp 17) _ rfl w.heap.size 9 i0 _ 1 16 Try.underlying32 hi0 hz0 hz1 hz2 rfl (by omega) _ k _ rfl (own2.alloc _) 0 _ _ 1 1 [.string (text y)] rfl rfl
           ((rd_new _ _ _).more (Nat.zero_le _) (Nat.le_refl _)) (by simp [Value.oneCell']) (by simp only [maxLen]; omega) (by omega) (by have := e4.size; simp; omega) ?_
         intro v3 w3 hown3 hg3 hat3
         have e5 : Ext w w3 := ext_grown (e4.alloc _) (own2.alloc _) hg3 (Nat.le_refl _)
         clear hg3 hat3 own2 e4)
      go_roundw
      case rel => exact ⟨k + 1, by omega, by go_num, by rw [htx.out]; exact hown3, e5⟩
      case measure => simp [intOf]; omega
    · go_wp2_with fail
      obtain rfl : k = n := by omega
      go_ret
      exact ⟨_, rfl, by rw [List.take_of_length_le (by rw [← Hn.out]; exact Nat.le_refl _)] at hown; exact hown, e3⟩

/-- two lists of texts that are one -/
theorem rd_str {w : World} {lo hi : Nat} {A : Option Addr} {l : List ByteArray} (h : Rd w lo hi A (l.map Value.string)) {k : Nat} (hk : k < l.length) :
    ∃ b o, A = some ⟨b, o, none⟩ ∧ lo ≤ b ∧ b < hi ∧ w.cell? ⟨b, o + k, none⟩ = some (.string l[k]) := by
  obtain ⟨b, o, h1, h2, h3, h4⟩ := h (fun e => by have : (l.map Value.string).length = l.length := by simp
                                                  rw [e] at this; simp at this; omega)
  exact ⟨b, o, h1, h2, h3, h4 k _ (by rw [List.getElem?_map, List.getElem?_eq_getElem hk]; rfl)⟩
set_option maxHeartbeats 400000 in
theorem same_texts (w : World) (A B : Option Addr) (n c d lo hi lo' hi' : Nat) (l : List ByteArray) (hn : n = l.length) (hb : n ≤ 9223372036854775807) (hr : Rd w lo hi A (l.map Value.string)) (hh : hi ≤ w.heap.size) (hr' : Rd w lo' hi' B (l.map Value.string)) (hh' : hi' ≤ w.heap.size) :
    Calls Try.prog 12 #[.slice A n c, .slice B n d] w fun e w' => e = .returned (.bool true) ∧ Ext w w' := by
  have Hn := Lib.hid hn
  clear hn
  go_enter Try.func12, Try.ntmps12
  go_wp2_with fail
  go_loopw [5] (fun i wr => ∃ k : Nat, k ≤ n ∧ i = .int .i64 k ∧ Ext w wr) (fun i _ => n - (intOf i).toNat)
  case atStart => exact ⟨0, Nat.zero_le _, rfl, by (repeat (first | exact Below.refl _ _ | exact Ext.refl _ | assumption | refine Below.drew ?_ | refine below_drewN ?_ _ | refine below_alloc ?_ (by first | exact Nat.le_refl _ | assumption | (simp; done) | omega | (simp; omega)) _ | refine below_ext ?_ (by assumption) (by first | exact Nat.le_refl _ | assumption | (simp; done) | omega | (simp; omega)) | refine Ext.drew ?_ | refine Ext.drewN ?_ _ | refine Ext.alloc ?_ _ | refine Ext.setCell ?_ (by first | assumption | (simp; done) | (simp; omega)) _ | refine Below.setCell ?_ (by first | assumption | (simp; done) | (simp; omega)) _ | refine Ext.trans ?_ (by assumption)))⟩
  case round =>
    obtain ⟨k, hk, rfl, e6⟩ := hrel
    by_cases hlt : k < n
    · obtain ⟨b1, o1, rfl, _, _, f0⟩ := rd_str (hr.ext e6 hh) (k := k) (by rw [← Hn.out]; omega)
      obtain ⟨b2, o2, rfl, _, _, d0⟩ := rd_str (hr'.ext e6 hh') (k := k) (by rw [← Hn.out]; omega)
      generalize l[k]'(by rw [← Hn.out]; omega) = y at *
      go_wp2_with fail
      go_quiet (fail)
      go_wp2_with fail
      go_roundw
      case rel => exact ⟨k + 1, by omega, by go_num, by (repeat (first | exact Below.refl _ _ | exact Ext.refl _ | assumption | refine Below.drew ?_ | refine below_drewN ?_ _ | refine below_alloc ?_ (by first | exact Nat.le_refl _ | assumption | (simp; done) | omega | (simp; omega)) _ | refine below_ext ?_ (by assumption) (by first | exact Nat.le_refl _ | assumption | (simp; done) | omega | (simp; omega)) | refine Ext.drew ?_ | refine Ext.drewN ?_ _ | refine Ext.alloc ?_ _ | refine Ext.setCell ?_ (by first | assumption | (simp; done) | (simp; omega)) _ | refine Below.setCell ?_ (by first | assumption | (simp; done) | (simp; omega)) _ | refine Ext.trans ?_ (by assumption)))⟩
      case measure => simp [intOf]; omega
    · go_wp2_with fail
      go_ret
      exact ⟨rfl, by (repeat (first | exact Below.refl _ _ | exact Ext.refl _ | assumption | refine Below.drew ?_ | refine below_drewN ?_ _ | refine below_alloc ?_ (by first | exact Nat.le_refl _ | assumption | (simp; done) | omega | (simp; omega)) _ | refine below_ext ?_ (by assumption) (by first | exact Nat.le_refl _ | assumption | (simp; done) | omega | (simp; omega)) | refine Ext.drew ?_ | refine Ext.drewN ?_ _ | refine Ext.alloc ?_ _ | refine Ext.setCell ?_ (by first | assumption | (simp; done) | (simp; omega)) _ | refine Below.setCell ?_ (by first | assumption | (simp; done) | (simp; omega)) _ | refine Ext.trans ?_ (by assumption)))⟩
end Go.Proofs.Ytehdfiiflhpoiaa
