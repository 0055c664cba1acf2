/- The walk of Count: a clone, a closure, DeleteFunc and IndexFunc over it. -/
import Derived.Test.YtehdfiiflhpoiaaA1
namespace Go.Proofs.Ytehdfiiflhpoiaa
open Go.RowKit

/-- not a user's -/
def other (u : ByteArray) (x : Ent) : Bool := x.user.toList != u.toList

set_option maxHeartbeats 400000 in
theorem clos_any (w : World) (b : Nat) (u : ByteArray) (x : Ent) (hc : w.cell? ⟨b, 0, none⟩ = some (.string u)) :
    Calls Try.prog 20 #[.agg #[.string x.user, .int .i64 x.kind, .string x.path, .int .i64 x.err], .pointer (some ⟨b, 0, none⟩)] w fun e w' => e = .returned (.bool (other u x)) ∧ Ext w w' := by
  have hb : b < w.heap.size := World.block_lt_of_cell? w _ hc
  go_enter Try.func20, Try.ntmps20
  go_wp2_with fail
  generalize hw1 : World.alloc w _ = w1; obtain ⟨ew1, zw1, Gw1⟩ := box_cells hw1; have gw1_0 := Gw1 0 _ rfl; have gw1_1 := Gw1 1 _ rfl; have gw1_2 := Gw1 2 _ rfl; have gw1_3 := Gw1 3 _ rfl; have Zw1 := Lib.hid zw1; clear zw1 hw1 Gw1
  have hc1 : ∀ w', Ext w1 w' → w'.cell? ⟨b, 0, none⟩ = some (.string u) := fun w' h => (Below.cell (ew1.trans h) hb).trans hc
  clear hc
  go_wp2
  go_ret
  exact ⟨rfl, by (repeat (first | exact Below.refl _ _ | exact Ext.refl _ | assumption | refine Below.drew ?_ | refine below_drewN ?_ _ | refine below_alloc ?_ (by first | exact Nat.le_refl _ | assumption | (simp; done) | omega | (simp; omega)) _ | refine below_ext ?_ (by assumption) (by first | exact Nat.le_refl _ | assumption | (simp; done) | omega | (simp; omega)) | refine Ext.drew ?_ | refine Ext.drewN ?_ _ | refine Ext.alloc ?_ _ | refine Ext.setCell ?_ (by first | assumption | (simp; done) | (simp; omega)) _ | refine Below.setCell ?_ (by first | assumption | (simp; done) | (simp; omega)) _ | refine Ext.trans ?_ (by assumption)))⟩

/-- how many are kept -/
def kept (u : ByteArray) (xs : List Ent) : Nat := (xs.filter fun x => !other u x).length
theorem kept_snoc (u : ByteArray) (xs : List Ent) (k : Nat) (hk : k < xs.length) : kept u (xs.take (k + 1)) = kept u (xs.take k) + if other u xs[k] then 0 else 1 := by
  rw [List.take_succ_eq_append_getElem hk, kept, List.filter_append, List.length_append]
  cases h : other u xs[k] <;> simp [h, kept]
theorem kept_le (u : ByteArray) (xs : List Ent) (k : Nat) : kept u (xs.take k) ≤ k := Nat.le_trans (List.length_filter_le _ _) (List.length_take_le _ _)

/-- IndexFunc's answer: the first that goes, or -1 and all are kept -/
def IdxOk (u : ByteArray) (xs : List Ent) (w : World) (e : Ending) (w' : World) : Prop :=
  ∃ r : Int, e = .returned (.int .i64 r) ∧ ((r = -1 ∧ kept u xs = xs.length) ∨ ∃ k : Nat, r = k ∧ ∃ h : k < xs.length, other u xs[k] = true ∧ kept u (xs.take k) = k) ∧ Ext w w'

set_option maxHeartbeats 400000 in
theorem idx_any (w : World) (A : Option Addr) (n c b lo hi : Nat) (u : ByteArray) (xs : List Ent) (hn : n = xs.length) (hm : n ≤ 9223372036854775807) (hr : Rd w lo hi A (ents xs)) (hh : hi ≤ w.heap.size) (hc : w.cell? ⟨b, 0, none⟩ = some (.string u)) :
    Calls Try.prog 23 #[.slice A n c, .func (.func 20) #[] #[.pointer (some ⟨b, 0, none⟩)]] w (IdxOk u xs w) := by
  have hb : b < w.heap.size := World.block_lt_of_cell? w _ hc
  have Hn := Lib.hid hn
  clear hn
  go_enter Try.func23, Try.ntmps23
  go_wp2_with fail
  go_loopw [8] (fun i wr => ∃ k : Nat, k ≤ n ∧ i = .int .i64 k ∧ kept u (xs.take k) = k ∧ Ext w wr) (fun i _ => n - (intOf i).toNat)
  case atStart => exact ⟨0, Nat.zero_le _, rfl, rfl, Ext.refl _⟩
  case round =>
    obtain ⟨k, hk, rfl, hkept, e1⟩ := hrel
    have HK := Lib.hid hkept
    clear hkept
    by_cases hlt : k < n
    · obtain ⟨b1, o1, rfl, _, _, f0, f1, f2, f3⟩ := rd_ent (hr.ext e1 hh) (k := k) (by rw [← Hn.out]; omega)
      have hks := Lib.hid (kept_snoc u xs k (by rw [← Hn.out]; omega))
      have hl : k < xs.length := by rw [← Hn.out]; omega
      obtain ⟨y, hy⟩ : ∃ y, y = xs[k]'hl := ⟨_, rfl⟩
      rw [← hy] at f0 f1 f2 f3 hks
      have HY := Lib.hid hy
      have hcw : wr.cell? ⟨b, 0, none⟩ = some (.string u) := (Below.cell e1 hb).trans hc
      clear hy
      go_wp2_with fail
      refine (clos_any _ b u y hcw).mono ?_
      rintro e w2 ⟨rfl, e2⟩
      cases ho : other u y
      · go_wp2_with fail
        go_roundw
        case rel => exact ⟨k + 1, by omega, by go_num, by rw [hks.out, HK.out, ho]; rfl, by (repeat (first | exact Below.refl _ _ | exact Ext.refl _ | assumption | refine Below.drew ?_ | refine below_drewN ?_ _ | refine below_alloc ?_ (by first | exact Nat.le_refl _ | assumption | (simp; done) | omega | (simp; omega)) _ | refine below_ext ?_ (by assumption) (by first | exact Nat.le_refl _ | assumption | (simp; done) | omega | (simp; omega)) | refine Ext.drew ?_ | refine Ext.drewN ?_ _ | refine Ext.alloc ?_ _ | refine Ext.setCell ?_ (by first | assumption | (simp; done) | (simp; omega)) _ | refine Below.setCell ?_ (by first | assumption | (simp; done) | (simp; omega)) _ | refine Ext.trans ?_ (by assumption)))⟩
        case measure => simp [intOf]; omega
      · go_wp2_with fail
        go_ret
        exact ⟨k, rfl, .inr ⟨k, rfl, hl, by rw [← HY.out]; exact ho, HK.out⟩, by (repeat (first | exact Below.refl _ _ | exact Ext.refl _ | assumption | refine Below.drew ?_ | refine below_drewN ?_ _ | refine below_alloc ?_ (by first | exact Nat.le_refl _ | assumption | (simp; done) | omega | (simp; omega)) _ | refine below_ext ?_ (by assumption) (by first | exact Nat.le_refl _ | assumption | (simp; done) | omega | (simp; omega)) | refine Ext.drew ?_ | refine Ext.drewN ?_ _ | refine Ext.alloc ?_ _ | refine Ext.setCell ?_ (by first | assumption | (simp; done) | (simp; omega)) _ | refine Below.setCell ?_ (by first | assumption | (simp; done) | (simp; omega)) _ | refine Ext.trans ?_ (by assumption)))⟩
    · go_wp2_with fail
      go_ret
      obtain rfl : k = n := by omega
      have h1 := HK.out
      rw [List.take_of_length_le (by rw [← Hn.out]; exact Nat.le_refl _)] at h1
      exact ⟨-1, rfl, .inl ⟨rfl, by rw [h1]; exact Hn.out⟩, e1⟩

theorem zero25 (w : World) : (zeroValue 25).run Try.prog w = .ok (.agg #[.string .empty, .int .i64 0, .string .empty, .int .i64 0]) w := by kernel_rfl

/-- DeleteFunc's answer: a slice of as many as are kept; what lies below the slice's own block stays -/
def DelOk (u : ByteArray) (xs : List Ent) (lo : Nat) (w : World) (e : Ending) (w' : World) : Prop :=
  ∃ (A : Option Addr) (c : Nat), e = .returned (.slice A (kept u xs) c) ∧ Below lo w w'

set_option maxHeartbeats 1000000 in
theorem del_any (w : World) (A : Option Addr) (n c b lo hi : Nat) (u : ByteArray) (xs : List Ent) (hn : n = xs.length) (hm : n ≤ c) (hm2 : c ≤ 9223372036854775807) (hr : Wr w lo hi A (ents xs)) (hh : hi ≤ w.heap.size) (hlo : lo ≤ w.heap.size) (hbl : b < lo) (hc : w.cell? ⟨b, 0, none⟩ = some (.string u)) :
    Calls Try.prog 19 #[.slice A n c, .func (.func 20) #[] #[.pointer (some ⟨b, 0, none⟩)]] w (DelOk u xs lo w) := by
  have hlen : (ents xs).length = n * 4 := by rw [ents_length, hn]
  have Hn := Lib.hid hn
  clear hn
  go_enter Try.func19, Try.ntmps19
  go_wp2_with fail
  refine (idx_any w A n c b lo hi u xs Hn.out (by omega) hr.rd hh hc).mono ?_
  rintro e w1 ⟨r, rfl, hor, e1⟩
  rcases hor with ⟨rfl, hall⟩ | ⟨k0, rfl, hk0, ho, hkept⟩
  · have HA := Lib.hid hall
    clear hall
    go_wp2_with fail
    go_ret
    exact ⟨A, c, by rw [HA.out, ← Hn.out]; rfl, Below.mono e1 hlo⟩
  · have hkn : k0 < n := by rw [Hn.out]; exact hk0
    have hks := kept_snoc u xs k0 hk0
    rw [ho, hkept] at hks
    have HK := Lib.hid hks
    clear hks hkept ho
    have hne : ents xs ≠ [] := fun e => by rw [e] at hlen; simp at hlen; omega
    obtain ⟨g, o, rfl, hg1, hg2, hcells⟩ := hr hne
    have hcan : Can w1 g o (n * 4) := by have := (hr.can).ext e1; rwa [hlen] at this
    have hrd : Rd w1 lo hi (some ⟨g, o, none⟩) (ents xs) := hr.rd.ext e1 hh
    have HL := Lib.hid hlen
    have hb1 : ((k0 : Int) == -1) = false := by simp
    clear hr hne hcells hlen
    go_wp2_with fail
    clear hb1
    go_loopw [5, 6] (fun si sj wr => ∃ i j : Nat, j ≤ n ∧ i < j ∧ si = .int .i64 i ∧ sj = .int .i64 j ∧ i = kept u (xs.take j) ∧ Below lo w wr ∧ Can wr g o (n * 4) ∧ Rd wr lo hi (some ⟨g, o + j * 4, none⟩) (ents (xs.drop j))) (fun _ sj _ => n - (intOf sj).toNat)
    case atStart => exact ⟨k0, k0 + 1, by omega, by omega, rfl, by go_num, HK.out.symm, Below.mono e1 hlo, hcan, by have := hrd.step ((k0 + 1) * 4); rwa [ents_drop] at this⟩
    case round =>
      clear hcan hrd
      obtain ⟨i, j, hj, hij, rfl, rfl, hki, e3, hcan, hrd⟩ := hrel
      have HI := Lib.hid hki
      clear hki
      by_cases hlt : j < n
      · have hl : j < xs.length := by rw [← Hn.out]; omega
        obtain ⟨b1, o1, hbo, _, _, f0, f1, f2, f3⟩ := rd_ent hrd (k := 0) (by rw [List.length_drop]; omega)
        simp only [Option.some.injEq, Addr.mk.injEq, and_true] at hbo
        obtain ⟨rfl, rfl⟩ := hbo
        simp only [Nat.zero_mul, Nat.add_zero, List.getElem_drop] at f0 f1 f2 f3
        have hks := Lib.hid (kept_snoc u xs j hl)
        generalize xs[j]'hl = y at *
        have hcw : wr.cell? ⟨b, 0, none⟩ = some (.string u) := (e3.cell hbl).trans hc
        go_wp2_with fail
        clear f0 f1 f2 f3
        generalize hwx : World.alloc wr _ = wx; obtain ⟨ewx, zwx, Gwx⟩ := box_cells hwx; have gwx_0 := Gwx 0 _ rfl; have gwx_1 := Gwx 1 _ rfl; have gwx_2 := Gwx 2 _ rfl; have gwx_3 := Gwx 3 _ rfl; have Zwx := Lib.hid zwx; clear zwx hwx Gwx
        have hbw : b < wr.heap.size := Nat.lt_of_lt_of_le hbl (Nat.le_trans hlo e3.size)
        refine (clos_any wx b u y ((Below.cell ewx hbw).trans hcw)).mono ?_
        rintro e w2 ⟨rfl, e2⟩
        have e4 : Ext wr w2 := ewx.trans e2
        have hcan2 := hcan.ext e4
        have hrd2 := hrd.ext e4 (Nat.le_trans hh e3.size)
        have e5 : Below lo w w2 := below_ext e3 e4 hlo
        clear hcan hrd hcw e4 e3
        cases ho : other u y
        · obtain ⟨⟨u0, c0⟩, f0⟩ := hcan2 (i * 4) (by omega)
          obtain ⟨⟨u1, c1⟩, f1⟩ := hcan2 (i * 4 + 1) (by omega)
          obtain ⟨⟨u2, c2⟩, f2⟩ := hcan2 (i * 4 + 2) (by omega)
          obtain ⟨⟨u3, c3⟩, f3⟩ := hcan2 (i * 4 + 3) (by omega)
          simp only [← Nat.add_assoc] at c1 c2 c3 f1 f2 f3
          go_wp2_with fail
          go_roundw
          case rel =>
            refine ⟨i + 1, j + 1, by omega, by omega, by go_num, by go_num, by rw [hks.out, ho, ← HI.out]; rfl, by (repeat (first | exact Below.refl _ _ | exact Ext.refl _ | assumption | refine Below.drew ?_ | refine below_drewN ?_ _ | refine below_alloc ?_ (by first | exact Nat.le_refl _ | assumption | (simp; done) | omega | (simp; omega)) _ | refine below_ext ?_ (by assumption) (by first | exact Nat.le_refl _ | assumption | (simp; done) | omega | (simp; omega)) | refine Ext.drew ?_ | refine Ext.drewN ?_ _ | refine Ext.alloc ?_ _ | refine Ext.setCell ?_ (by first | assumption | (simp; done) | (simp; omega)) _ | refine Below.setCell ?_ (by first | assumption | (simp; done) | (simp; omega)) _ | refine Ext.trans ?_ (by assumption))), (((hcan2.setCell _ _).setCell _ _).setCell _ _).setCell _ _, ?_⟩
            have := ((((hrd2.setCell_before (q := o + i * 4) (by omega) (.string y.user)).setCell_before (q := o + i * 4 + 1) (by omega) (.int .i64 y.kind)).setCell_before (q := o + i * 4 + 2) (by omega) (.string y.path)).setCell_before (q := o + i * 4 + 3) (by omega) (.int .i64 y.err)).step (1 * 4)
            rw [ents_drop, List.drop_drop] at this
            rw [show o + (j + 1) * 4 = o + j * 4 + 1 * 4 from by omega]
            exact this
          case measure => simp [intOf]; omega
        · go_wp2_with fail
          go_roundw
          case rel =>
            refine ⟨i, j + 1, by omega, by omega, rfl, by go_num, by rw [hks.out, ho, ← HI.out]; rfl, e5, hcan2, ?_⟩
            have := hrd2.step (1 * 4)
            rw [ents_drop, List.drop_drop] at this
            rw [show o + (j + 1) * 4 = o + j * 4 + 1 * 4 from by omega]
            exact this
          case measure => simp [intOf]; omega
      · have hcl : 0 < n - i → ∃ b k, some (⟨g, o + i * 4, none⟩ : Addr) = some ⟨b, k, none⟩ ∧ Can wr b k ((n - i) * (Value.agg #[Value.string ByteArray.empty, Value.int .i64 0, Value.string ByteArray.empty, Value.int .i64 0]).cells.size) := fun _ => ⟨g, o + i * 4, rfl, fun q hq => by
          have h4 : (Value.agg #[Value.string ByteArray.empty, Value.int .i64 0, Value.string ByteArray.empty, Value.int .i64 0]).cells.size = 4 := rfl
          rw [h4] at hq
          have := hcan (i * 4 + q) (by omega)
          rwa [← Nat.add_assoc] at this⟩
        have HCL := Lib.hid hcl
        clear hcl
        go_wp2_with
          ((with_reducible refine list_clear _ rfl (.tmp 38) _ rfl 25 _ Try.underlying22 zero25 (by simp [Value.cells, Value.oneCell']) (by simp [Value.cells]) _ (n - i) (c - i) rfl HCL.out ?_)
           intro w3 he3
           have e4 : Below lo w w3 := he3 _ _ e3 (fun b k h => by simp only [Option.some.injEq, Addr.mk.injEq] at h; omega)
           clear he3)
        go_ret
        obtain rfl : j = n := by omega
        have h1 := HI.out
        rw [List.take_of_length_le (by rw [← Hn.out]; exact Nat.le_refl _)] at h1
        exact ⟨_, _, by rw [← h1]; rfl, e4⟩

set_option maxHeartbeats 400000 in
theorem count_any (w : World) (A : Option Addr) (n c : Nat) (u : ByteArray) (xs : List Ent) (hn : n = xs.length) (hr : Rd w 0 w.heap.size A (ents xs)) (hb : n * 48 ≤ 140737488355328) :
    Calls Try.prog 15 #[.slice A n c, .string u] w fun e w' => e = .returned (.int .i64 (kept u xs)) ∧ Ext w w' := by
  have hl : (ents xs).length = n * 4 := by rw [ents_length, hn]
  have Hn := Lib.hid hn
  clear hn
  go_enter Try.func15, Try.ntmps15
  have hmf : ∀ (fn : Fn) (first cap : Array Value) (w : World), (Instr.makeFunc fn first cap).run Try.prog w = .ok (.func fn first cap) w := fun _ _ _ _ => rfl
  go_wp2_with fail
  generalize hw1 : World.alloc w _ = w1; obtain ⟨ew1, zw1, Gw1⟩ := box_cells hw1; have gw1_0 := Gw1 0 _ rfl; have Zw1 := Lib.hid zw1; clear zw1 hw1 Gw1
  refine (clone_any w1 w1.heap.size (Nat.le_refl _) A n c (ents xs) hl (hr.at (by (repeat (first | exact Below.refl _ _ | exact Ext.refl _ | assumption | refine Below.drew ?_ | refine below_drewN ?_ _ | refine below_alloc ?_ (by first | exact Nat.le_refl _ | assumption | (simp; done) | omega | (simp; omega)) _ | refine below_ext ?_ (by assumption) (by first | exact Nat.le_refl _ | assumption | (simp; done) | omega | (simp; omega)) | refine Ext.drew ?_ | refine Ext.drewN ?_ _ | refine Ext.alloc ?_ _ | refine Ext.setCell ?_ (by first | assumption | (simp; done) | (simp; omega)) _ | refine Below.setCell ?_ (by first | assumption | (simp; done) | (simp; omega)) _ | refine Ext.trans ?_ (by assumption)))) (Nat.le_refl _)) (ents_one _) hb).mono ?_
  rintro e w2 ⟨v2, rfl, hown2, e2⟩
  obtain ⟨A2, c2, rfl, h1, h2, _⟩ := own_form hown2
  simp only [maxLen] at h2
  have hcw := gw1_0 w2 e2
  clear gw1_0
  go_wp2_with fail
  refine (del_any w2 A2 n c2 w.heap.size w1.heap.size w2.heap.size u xs Hn.out h1 h2 (Wr.of_own hown2) (Nat.le_refl _) e2.size (by rw [Zw1.out]; omega) hcw).mono ?_
  rintro e w3 ⟨A3, c3, rfl, e3⟩
  go_wp2
  go_ret
  exact ⟨rfl, Below.mono (Below.trans (Below.mono (ew1.trans e2) (Nat.le_refl _)) (Below.mono e3 ew1.size)) (Nat.le_refl _)⟩
end Go.Proofs.Ytehdfiiflhpoiaa
