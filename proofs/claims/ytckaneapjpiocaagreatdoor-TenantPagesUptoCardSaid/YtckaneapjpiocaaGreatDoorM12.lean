/- The texts StgS, Bsm, Psm, Stgd, Tnt, Tck, Use, Ns, Ix in one file. -/
import Derived.Test.YtckaneapjpiocaaGreatDoorM10
import Derived.Test.YtckaneapjpiocaaGreatDoorM11
import Derived.Test.YtckaneapjpiocaaGreatDoorM7
import Derived.Test.YtckaneapjpiocaaGreatDoorM6
import Derived.Test.YtckaneapjpiocaaGreatDoorM9
/- A stage: its data, and when it may be. -/
namespace Go.Proofs.YtckaneapjpiocaaGreatDoor
open Go.RowKit
set_option linter.unusedVariables false
set_option linter.unusedSimpArgs false

structure Stg where
  into : ByteArray
  beg : Rec
  bA : Option Addr
  bn : Nat
  bc : Nat
  body : List Blk
  pos : Int
  next : Int
  su : Su
  done : Bool
def Stg.cells (x : Stg) : List Value := .string x.into :: (x.beg.cells ++ (.slice x.bA x.bn x.bc :: .int .i64 x.pos :: .int .i64 x.next :: (x.su.cells ++ [.bool x.done])))
/-- a stage that came in, of moderate bulk -/
structure Stg.ok (w : World) (x : Stg) : Prop where
  into : x.into.size ≤ 100000000
  beg : x.beg.wf
  begR : Rd w 0 w.heap.size x.beg.oA (prps x.beg.own)
  begN : x.beg.on ≤ 100000000
  begS : (sumR x.beg).wf
  bodyN : x.bn = x.body.length
  bodyM : x.bn ≤ 100000000
  bodyR : Rd w 0 w.heap.size x.bA (blks x.body)
  bodyW : ∀ y ∈ x.body, y.wf
  pos : -9223372036854775808 ≤ x.pos ∧ x.pos ≤ 9223372036854775807
  next : -9223372036854775808 ≤ x.next ∧ x.next ≤ 9223372036854775807
  su : x.su.wf
theorem Stg.ok.ext {w w' : World} {x : Stg} (h : x.ok w) (e : Ext w w') : x.ok w' :=
  ⟨h.into, h.beg, Rd.at h.begR e (Nat.le_refl _), h.begN, h.begS, h.bodyN, h.bodyM, Rd.at h.bodyR e (Nat.le_refl _), h.bodyW, h.pos, h.next, h.su⟩
def amt (n : Int) : Bool := decide (0 ≤ n) && decide (n ≤ 1099511627776)
def stB (x : Stg) : Bool := !x.into.toList.isEmpty && (pathB x.into && (x.beg.kind == 1 && (decide (recE x.beg = 0) && (decide (bkE x.body = 0) && (amt x.pos && amt x.next)))))
theorem sizeStg : (Tryz.prog.info? 49).map (·.size) = some 21 := by kernel_rfl
end Go.Proofs.YtckaneapjpiocaaGreatDoor
/- The reference's Own and Same of blocks: the walks. -/
namespace Go.Proofs.YtckaneapjpiocaaGreatDoor
open Go.RowKit
set_option linter.unusedVariables false
set_option linter.unusedSimpArgs false

instance : DecidableEq Blk := fun a b => decidable_of_iff (a.index = b.index ∧ a.data = b.data) (by cases a; cases b; simp)
theorem take_eq_succ {xs ys : List Blk} {k : Nat} (h1 : k < xs.length) (h2 : k < ys.length) (h : xs.take k = ys.take k) (he : xs[k] = ys[k]) : xs.take (k + 1) = ys.take (k + 1) := by
  rw [List.take_succ_eq_append_getElem h1, List.take_succ_eq_append_getElem h2, h, he]
theorem ne_at {xs ys : List Blk} {k : Nat} (h1 : k < xs.length) (h2 : k < ys.length) (hn : xs[k] ≠ ys[k]) : xs ≠ ys := fun e => by
  subst e
  exact hn rfl
theorem toList_ne {a b : ByteArray} (h : a ≠ b) : (a.toList == b.toList) = false := by
  cases hh : (a.toList == b.toList) with
  | false => rfl
  | true =>
    have h1 := eq_of_beq hh
    rw [ByteArray.toList_eq, ByteArray.toList_eq] at h1
    exact absurd (ByteArray.ext (Array.toList_inj.1 h1)) h
theorem toList_self (a : ByteArray) : (a.toList == a.toList) = true := by simp

set_option maxRecDepth 100000 in
set_option maxHeartbeats 2000000 in
theorem rsame_any (w : World) (A B : Option Addr) (n m c d : Nat) (xs ys : List Blk) (hn : n = xs.length) (hm : m = ys.length) (hN : n ≤ 9223372036854775807) (hM : m ≤ 9223372036854775807) (hr : Rd w 0 w.heap.size A (blks xs)) (hs : Rd w 0 w.heap.size B (blks ys)) :
    Calls Tryz.prog 111 #[.slice A n c, .slice B m d] w fun e w' => e = .returned (.bool (decide (xs = ys))) ∧ Ext w w' := by
  have Hn := Lib.hid hn
  have Hm := Lib.hid hm
  have HR := Lib.hid hr
  have HS := Lib.hid hs
  by_cases hne : n = m
  · subst hne
    clear hn hm hr hs
    go_enter Tryz.func111, Tryz.ntmps111
    go_wp2_with fail
    go_loopw [5] (fun i wr => ∃ k : Nat, k ≤ n ∧ i = .int .i64 k ∧ Hid (xs.take k = ys.take k) ∧ Ext w wr) (fun i _ => n - (intOf i).toNat)
    case atStart => exact ⟨0, Nat.zero_le _, rfl, by rw [Hid]; rfl, Ext.refl _⟩
    case round =>
      obtain ⟨k, hk, rfl, HK, e1⟩ := hrel
      by_cases hlt : k < n
      · have l1 : k < xs.length := by rw [← Hn.out]; exact hlt
        have l2 : k < ys.length := by rw [← Hm.out]; exact hlt
        obtain ⟨b1, o1, rfl, _, _, f0, f1⟩ := rd_blk (HR.out.ext e1 (Nat.le_refl _)) l1
        obtain ⟨b2, o2, rfl, _, _, g0, g1⟩ := rd_blk (HS.out.ext e1 (Nat.le_refl _)) l2
        have HT := Lib.hid (take_eq_succ l1 l2 HK.out)
        have HN := Lib.hid (ne_at l1 l2)
        generalize xs[k] = x at *
        generalize ys[k] = y at *
        obtain ⟨xi, xd⟩ := x
        obtain ⟨yi, yd⟩ := y
        by_cases h1 : xi = yi
        · subst h1
          by_cases h2 : xd = yd
          · subst h2
            have c2 := toList_self xd
            have HT2 := Lib.hid (HT.out rfl)
            go_wp2_with fail
            refine wp_region_held_drew (S := fun w' => w' = wr.drew) (by kernel_rfl) rfl (fun hHeld => ?_)
            refine tU 0 rfl (by kernel_rfl) (fun _ _ _ h => h) (by intro w hSw; (try dsimp only at hSw); go_simp <;> with_reducible rfl) (by assumption) ?_; (try simp only [Act.put, lyA, lyB, lyC])
            refine tU 1 rfl (by kernel_rfl) (fun _ _ _ h => h) (by intro w hSw; (try dsimp only at hSw); go_simp <;> with_reducible rfl) (by assumption) ?_; (try simp only [Act.put, lyA, lyB, lyC])
            refine tU 2 rfl (by kernel_rfl) (fun _ _ _ h => h) (by intro w hSw; (try dsimp only at hSw); go_simp <;> with_reducible rfl) (by assumption) ?_; (try simp only [Act.put, lyA, lyB, lyC])
            refine tU 3 rfl (by kernel_rfl) (fun _ _ _ h => h) (by intro w hSw; (try dsimp only at hSw); go_simp <;> with_reducible rfl) (by assumption) ?_; (try simp only [Act.put, lyA, lyB, lyC])
            refine tU 4 rfl (by kernel_rfl) (fun _ _ _ h => h) (by intro w hSw; (try dsimp only at hSw); go_simp <;> with_reducible rfl) (by assumption) ?_; (try simp only [Act.put, lyA, lyB, lyC])
            refine tU 5 rfl (by kernel_rfl) (fun _ _ _ h => h) (by intro w hSw; (try dsimp only at hSw); go_simp <;> with_reducible rfl) (by assumption) ?_; (try simp only [Act.put, lyA, lyB, lyC])
            refine tU 6 rfl (by kernel_rfl) (fun _ _ _ h => h) (by intro w hSw; (try dsimp only at hSw); go_simp <;> with_reducible rfl) (by assumption) ?_; (try simp only [Act.put, lyA, lyB, lyC])
            refine tU 7 rfl (by kernel_rfl) (fun _ _ _ h => h) (by intro w hSw; (try dsimp only at hSw); go_simp <;> with_reducible rfl) (by assumption) ?_; (try simp only [Act.put, lyA, lyB, lyC])
            refine tU 8 rfl (by kernel_rfl) (fun _ _ _ h => h) (by intro w hSw; (try dsimp only at hSw); go_simp <;> with_reducible rfl) (by assumption) ?_; (try simp only [Act.put, lyA, lyB, lyC])
            refine wpAnyH_done (by kernel_rfl) ?_ _
            go_wp2_with fail
            go_roundw
            case rel => exact ⟨k + 1, by omega, by go_num, HT2, by (repeat (first | exact Below.refl _ _ | exact Ext.refl _ | assumption | refine Below.drew ?_ | refine below_drewN ?_ _ | refine below_alloc ?_ (by first | exact Nat.le_refl _ | assumption | (simp; done) | omega | (simp; omega)) _ | refine below_ext ?_ (by assumption) (by first | exact Nat.le_refl _ | assumption | (simp; done) | omega | (simp; omega)) | refine Ext.drew ?_ | refine Ext.drewN ?_ _ | refine Ext.alloc ?_ _ | refine Ext.setCell ?_ (by first | assumption | (simp; done) | (simp; omega)) _ | refine Below.setCell ?_ (by first | assumption | (simp; done) | (simp; omega)) _ | refine Ext.trans ?_ (by assumption)))⟩
            case measure => simp [intOf]; omega
          · have c2 := toList_ne h2
            have HF := Lib.hid (HN.out (by simp [h2]))
            clear h2
            go_wp2_with fail
            refine wp_region_held_drew (S := fun w' => w' = wr.drew) (by kernel_rfl) rfl (fun hHeld => ?_)
            refine tU 0 rfl (by kernel_rfl) (fun _ _ _ h => h) (by intro w hSw; (try dsimp only at hSw); go_simp <;> with_reducible rfl) (by assumption) ?_; (try simp only [Act.put, lyA, lyB, lyC])
            refine tU 1 rfl (by kernel_rfl) (fun _ _ _ h => h) (by intro w hSw; (try dsimp only at hSw); go_simp <;> with_reducible rfl) (by assumption) ?_; (try simp only [Act.put, lyA, lyB, lyC])
            refine tU 2 rfl (by kernel_rfl) (fun _ _ _ h => h) (by intro w hSw; (try dsimp only at hSw); go_simp <;> with_reducible rfl) (by assumption) ?_; (try simp only [Act.put, lyA, lyB, lyC])
            refine tU 3 rfl (by kernel_rfl) (fun _ _ _ h => h) (by intro w hSw; (try dsimp only at hSw); go_simp <;> with_reducible rfl) (by assumption) ?_; (try simp only [Act.put, lyA, lyB, lyC])
            refine tU 4 rfl (by kernel_rfl) (fun _ _ _ h => h) (by intro w hSw; (try dsimp only at hSw); go_simp <;> with_reducible rfl) (by assumption) ?_; (try simp only [Act.put, lyA, lyB, lyC])
            refine tU 5 rfl (by kernel_rfl) (fun _ _ _ h => h) (by intro w hSw; (try dsimp only at hSw); go_simp <;> with_reducible rfl) (by assumption) ?_; (try simp only [Act.put, lyA, lyB, lyC])
            refine tU 6 rfl (by kernel_rfl) (fun _ _ _ h => h) (by intro w hSw; (try dsimp only at hSw); go_simp <;> with_reducible rfl) (by assumption) ?_; (try simp only [Act.put, lyA, lyB, lyC])
            refine tU 7 rfl (by kernel_rfl) (fun _ _ _ h => h) (by intro w hSw; (try dsimp only at hSw); go_simp <;> with_reducible rfl) (by assumption) ?_; (try simp only [Act.put, lyA, lyB, lyC])
            refine tU 8 rfl (by kernel_rfl) (fun _ _ _ h => h) (by intro w hSw; (try dsimp only at hSw); go_simp <;> with_reducible rfl) (by assumption) ?_; (try simp only [Act.put, lyA, lyB, lyC])
            refine wpAnyH_done (by kernel_rfl) ?_ _
            go_wp2_with fail
            go_ret
            exact ⟨by rw [decide_eq_false HF.out]; rfl, by (repeat (first | exact Below.refl _ _ | exact Ext.refl _ | assumption | refine Below.drew ?_ | refine below_drewN ?_ _ | refine below_alloc ?_ (by first | exact Nat.le_refl _ | assumption | (simp; done) | omega | (simp; omega)) _ | refine below_ext ?_ (by assumption) (by first | exact Nat.le_refl _ | assumption | (simp; done) | omega | (simp; omega)) | refine Ext.drew ?_ | refine Ext.drewN ?_ _ | refine Ext.alloc ?_ _ | refine Ext.setCell ?_ (by first | assumption | (simp; done) | (simp; omega)) _ | refine Below.setCell ?_ (by first | assumption | (simp; done) | (simp; omega)) _ | refine Ext.trans ?_ (by assumption)))⟩
        · have c1 : (xi == yi) = false := by simp [h1]
          have HF := Lib.hid (HN.out (by simp [h1]))
          clear h1
          go_wp2_with fail
          refine wp_region_held_drew (S := fun w' => w' = wr.drew) (by kernel_rfl) rfl (fun hHeld => ?_)
          refine tU 0 rfl (by kernel_rfl) (fun _ _ _ h => h) (by intro w hSw; (try dsimp only at hSw); go_simp <;> with_reducible rfl) (by assumption) ?_; (try simp only [Act.put, lyA, lyB, lyC])
          refine tU 1 rfl (by kernel_rfl) (fun _ _ _ h => h) (by intro w hSw; (try dsimp only at hSw); go_simp <;> with_reducible rfl) (by assumption) ?_; (try simp only [Act.put, lyA, lyB, lyC])
          refine tU 2 rfl (by kernel_rfl) (fun _ _ _ h => h) (by intro w hSw; (try dsimp only at hSw); go_simp <;> with_reducible rfl) (by assumption) ?_; (try simp only [Act.put, lyA, lyB, lyC])
          refine tU 3 rfl (by kernel_rfl) (fun _ _ _ h => h) (by intro w hSw; (try dsimp only at hSw); go_simp <;> with_reducible rfl) (by assumption) ?_; (try simp only [Act.put, lyA, lyB, lyC])
          refine tU 4 rfl (by kernel_rfl) (fun _ _ _ h => h) (by intro w hSw; (try dsimp only at hSw); go_simp <;> with_reducible rfl) (by assumption) ?_; (try simp only [Act.put, lyA, lyB, lyC])
          refine tU 5 rfl (by kernel_rfl) (fun _ _ _ h => h) (by intro w hSw; (try dsimp only at hSw); go_simp <;> with_reducible rfl) (by assumption) ?_; (try simp only [Act.put, lyA, lyB, lyC])
          refine tU 6 rfl (by kernel_rfl) (fun _ _ _ h => h) (by intro w hSw; (try dsimp only at hSw); go_simp <;> with_reducible rfl) (by assumption) ?_; (try simp only [Act.put, lyA, lyB, lyC])
          refine tU 7 rfl (by kernel_rfl) (fun _ _ _ h => h) (by intro w hSw; (try dsimp only at hSw); go_simp <;> with_reducible rfl) (by assumption) ?_; (try simp only [Act.put, lyA, lyB, lyC])
          refine tU 8 rfl (by kernel_rfl) (fun _ _ _ h => h) (by intro w hSw; (try dsimp only at hSw); go_simp <;> with_reducible rfl) (by assumption) ?_; (try simp only [Act.put, lyA, lyB, lyC])
          refine wpAnyH_done (by kernel_rfl) ?_ _
          go_wp2_with fail
          go_ret
          exact ⟨by rw [decide_eq_false HF.out]; rfl, by (repeat (first | exact Below.refl _ _ | exact Ext.refl _ | assumption | refine Below.drew ?_ | refine below_drewN ?_ _ | refine below_alloc ?_ (by first | exact Nat.le_refl _ | assumption | (simp; done) | omega | (simp; omega)) _ | refine below_ext ?_ (by assumption) (by first | exact Nat.le_refl _ | assumption | (simp; done) | omega | (simp; omega)) | refine Ext.drew ?_ | refine Ext.drewN ?_ _ | refine Ext.alloc ?_ _ | refine Ext.setCell ?_ (by first | assumption | (simp; done) | (simp; omega)) _ | refine Below.setCell ?_ (by first | assumption | (simp; done) | (simp; omega)) _ | refine Ext.trans ?_ (by assumption)))⟩
      · obtain rfl : k = n := by omega
        have HE : Hid (xs = ys) := by
          have h := HK.out
          rw [List.take_of_length_le (by rw [← Hn.out]; exact Nat.le_refl _), List.take_of_length_le (by rw [← Hm.out]; exact Nat.le_refl _)] at h
          exact h
        go_wp2_with fail
        go_ret
        exact ⟨by rw [decide_eq_true HE.out]; rfl, e1⟩
  · have HF : Hid (xs ≠ ys) := fun e => hne (by rw [hn, hm, e])
    have hb : ((n : Int) != (m : Int)) = true := by simp; omega
    clear hn hm hr hs
    go_enter Tryz.func111, Tryz.ntmps111
    go_wp2_with fail
    go_ret
    exact ⟨by rw [decide_eq_false HF.out]; rfl, Ext.refl _⟩
end Go.Proofs.YtckaneapjpiocaaGreatDoor
/- The reference's SameProps: the walk. -/
namespace Go.Proofs.YtckaneapjpiocaaGreatDoor
open Go.RowKit
set_option linter.unusedVariables false
set_option linter.unusedSimpArgs false

instance : DecidableEq Prp := fun a b => decidable_of_iff (a.name = b.name ∧ a.value = b.value) (by cases a; cases b; simp)
theorem ptake_eq_succ {xs ys : List Prp} {k : Nat} (h1 : k < xs.length) (h2 : k < ys.length) (h : xs.take k = ys.take k) (he : xs[k] = ys[k]) : xs.take (k + 1) = ys.take (k + 1) := by
  rw [List.take_succ_eq_append_getElem h1, List.take_succ_eq_append_getElem h2, h, he]
theorem pne_at {xs ys : List Prp} {k : Nat} (h1 : k < xs.length) (h2 : k < ys.length) (hn : xs[k] ≠ ys[k]) : xs ≠ ys := fun e => by
  subst e
  exact hn rfl

set_option maxRecDepth 100000 in
set_option maxHeartbeats 2000000 in
theorem rpsame_any (w : World) (A B : Option Addr) (n m c d : Nat) (xs ys : List Prp) (hn : n = xs.length) (hm : m = ys.length) (hN : n ≤ 9223372036854775807) (hM : m ≤ 9223372036854775807) (hr : Rd w 0 w.heap.size A (prps xs)) (hs : Rd w 0 w.heap.size B (prps ys)) :
    Calls Tryz.prog 71 #[.slice A n c, .slice B m d] w fun e w' => e = .returned (.bool (decide (xs = ys))) ∧ Ext w w' := by
  have Hn := Lib.hid hn
  have Hm := Lib.hid hm
  have HR := Lib.hid hr
  have HS := Lib.hid hs
  by_cases hne : n = m
  · subst hne
    clear hn hm hr hs
    go_enter Tryz.func71, Tryz.ntmps71
    go_wp2_with fail
    go_loopw [5] (fun i wr => ∃ k : Nat, k ≤ n ∧ i = .int .i64 k ∧ Hid (xs.take k = ys.take k) ∧ Ext w wr) (fun i _ => n - (intOf i).toNat)
    case atStart => exact ⟨0, Nat.zero_le _, rfl, by rw [Hid]; rfl, Ext.refl _⟩
    case round =>
      obtain ⟨k, hk, rfl, HK, e1⟩ := hrel
      by_cases hlt : k < n
      · have l1 : k < xs.length := by rw [← Hn.out]; exact hlt
        have l2 : k < ys.length := by rw [← Hm.out]; exact hlt
        obtain ⟨b1, o1, rfl, _, _, f0, f1⟩ := rd_prp (HR.out.ext e1 (Nat.le_refl _)) l1
        obtain ⟨b2, o2, rfl, _, _, g0, g1⟩ := rd_prp (HS.out.ext e1 (Nat.le_refl _)) l2
        have HT := Lib.hid (ptake_eq_succ l1 l2 HK.out)
        have HN := Lib.hid (pne_at l1 l2)
        generalize xs[k] = x at *
        generalize ys[k] = y at *
        obtain ⟨xi, xd⟩ := x
        obtain ⟨yi, yd⟩ := y
        by_cases h1 : xi = yi
        · subst h1
          have c1 := toList_self xi
          by_cases h2 : xd = yd
          · subst h2
            have c2 := toList_self xd
            have HT2 := Lib.hid (HT.out rfl)
            go_wp2_with fail
            refine wp_region_held_drew (S := fun w' => w' = wr.drew) (by kernel_rfl) rfl (fun hHeld => ?_)
            refine tU 0 rfl (by kernel_rfl) (fun _ _ _ h => h) (by intro w hSw; (try dsimp only at hSw); go_simp <;> with_reducible rfl) (by assumption) ?_; (try simp only [Act.put, lyA, lyB, lyC])
            refine tU 1 rfl (by kernel_rfl) (fun _ _ _ h => h) (by intro w hSw; (try dsimp only at hSw); go_simp <;> with_reducible rfl) (by assumption) ?_; (try simp only [Act.put, lyA, lyB, lyC])
            refine tU 2 rfl (by kernel_rfl) (fun _ _ _ h => h) (by intro w hSw; (try dsimp only at hSw); go_simp <;> with_reducible rfl) (by assumption) ?_; (try simp only [Act.put, lyA, lyB, lyC])
            refine tU 3 rfl (by kernel_rfl) (fun _ _ _ h => h) (by intro w hSw; (try dsimp only at hSw); go_simp <;> with_reducible rfl) (by assumption) ?_; (try simp only [Act.put, lyA, lyB, lyC])
            refine tU 4 rfl (by kernel_rfl) (fun _ _ _ h => h) (by intro w hSw; (try dsimp only at hSw); go_simp <;> with_reducible rfl) (by assumption) ?_; (try simp only [Act.put, lyA, lyB, lyC])
            refine tU 5 rfl (by kernel_rfl) (fun _ _ _ h => h) (by intro w hSw; (try dsimp only at hSw); go_simp <;> with_reducible rfl) (by assumption) ?_; (try simp only [Act.put, lyA, lyB, lyC])
            refine tU 6 rfl (by kernel_rfl) (fun _ _ _ h => h) (by intro w hSw; (try dsimp only at hSw); go_simp <;> with_reducible rfl) (by assumption) ?_; (try simp only [Act.put, lyA, lyB, lyC])
            refine tU 7 rfl (by kernel_rfl) (fun _ _ _ h => h) (by intro w hSw; (try dsimp only at hSw); go_simp <;> with_reducible rfl) (by assumption) ?_; (try simp only [Act.put, lyA, lyB, lyC])
            refine tU 8 rfl (by kernel_rfl) (fun _ _ _ h => h) (by intro w hSw; (try dsimp only at hSw); go_simp <;> with_reducible rfl) (by assumption) ?_; (try simp only [Act.put, lyA, lyB, lyC])
            refine wpAnyH_done (by kernel_rfl) ?_ _
            go_wp2_with fail
            go_roundw
            case rel => exact ⟨k + 1, by omega, by go_num, HT2, by (repeat (first | exact Below.refl _ _ | exact Ext.refl _ | assumption | refine Below.drew ?_ | refine below_drewN ?_ _ | refine below_alloc ?_ (by first | exact Nat.le_refl _ | assumption | (simp; done) | omega | (simp; omega)) _ | refine below_ext ?_ (by assumption) (by first | exact Nat.le_refl _ | assumption | (simp; done) | omega | (simp; omega)) | refine Ext.drew ?_ | refine Ext.drewN ?_ _ | refine Ext.alloc ?_ _ | refine Ext.setCell ?_ (by first | assumption | (simp; done) | (simp; omega)) _ | refine Below.setCell ?_ (by first | assumption | (simp; done) | (simp; omega)) _ | refine Ext.trans ?_ (by assumption)))⟩
            case measure => simp [intOf]; omega
          · have c2 := toList_ne h2
            have HF := Lib.hid (HN.out (by simp [h2]))
            clear h2
            go_wp2_with fail
            refine wp_region_held_drew (S := fun w' => w' = wr.drew) (by kernel_rfl) rfl (fun hHeld => ?_)
            refine tU 0 rfl (by kernel_rfl) (fun _ _ _ h => h) (by intro w hSw; (try dsimp only at hSw); go_simp <;> with_reducible rfl) (by assumption) ?_; (try simp only [Act.put, lyA, lyB, lyC])
            refine tU 1 rfl (by kernel_rfl) (fun _ _ _ h => h) (by intro w hSw; (try dsimp only at hSw); go_simp <;> with_reducible rfl) (by assumption) ?_; (try simp only [Act.put, lyA, lyB, lyC])
            refine tU 2 rfl (by kernel_rfl) (fun _ _ _ h => h) (by intro w hSw; (try dsimp only at hSw); go_simp <;> with_reducible rfl) (by assumption) ?_; (try simp only [Act.put, lyA, lyB, lyC])
            refine tU 3 rfl (by kernel_rfl) (fun _ _ _ h => h) (by intro w hSw; (try dsimp only at hSw); go_simp <;> with_reducible rfl) (by assumption) ?_; (try simp only [Act.put, lyA, lyB, lyC])
            refine tU 4 rfl (by kernel_rfl) (fun _ _ _ h => h) (by intro w hSw; (try dsimp only at hSw); go_simp <;> with_reducible rfl) (by assumption) ?_; (try simp only [Act.put, lyA, lyB, lyC])
            refine tU 5 rfl (by kernel_rfl) (fun _ _ _ h => h) (by intro w hSw; (try dsimp only at hSw); go_simp <;> with_reducible rfl) (by assumption) ?_; (try simp only [Act.put, lyA, lyB, lyC])
            refine tU 6 rfl (by kernel_rfl) (fun _ _ _ h => h) (by intro w hSw; (try dsimp only at hSw); go_simp <;> with_reducible rfl) (by assumption) ?_; (try simp only [Act.put, lyA, lyB, lyC])
            refine tU 7 rfl (by kernel_rfl) (fun _ _ _ h => h) (by intro w hSw; (try dsimp only at hSw); go_simp <;> with_reducible rfl) (by assumption) ?_; (try simp only [Act.put, lyA, lyB, lyC])
            refine tU 8 rfl (by kernel_rfl) (fun _ _ _ h => h) (by intro w hSw; (try dsimp only at hSw); go_simp <;> with_reducible rfl) (by assumption) ?_; (try simp only [Act.put, lyA, lyB, lyC])
            refine wpAnyH_done (by kernel_rfl) ?_ _
            go_wp2_with fail
            go_ret
            exact ⟨by rw [decide_eq_false HF.out]; rfl, by (repeat (first | exact Below.refl _ _ | exact Ext.refl _ | assumption | refine Below.drew ?_ | refine below_drewN ?_ _ | refine below_alloc ?_ (by first | exact Nat.le_refl _ | assumption | (simp; done) | omega | (simp; omega)) _ | refine below_ext ?_ (by assumption) (by first | exact Nat.le_refl _ | assumption | (simp; done) | omega | (simp; omega)) | refine Ext.drew ?_ | refine Ext.drewN ?_ _ | refine Ext.alloc ?_ _ | refine Ext.setCell ?_ (by first | assumption | (simp; done) | (simp; omega)) _ | refine Below.setCell ?_ (by first | assumption | (simp; done) | (simp; omega)) _ | refine Ext.trans ?_ (by assumption)))⟩
        · have c1 := toList_ne h1
          have HF := Lib.hid (HN.out (by simp [h1]))
          clear h1
          go_wp2_with fail
          refine wp_region_held_drew (S := fun w' => w' = wr.drew) (by kernel_rfl) rfl (fun hHeld => ?_)
          refine tU 0 rfl (by kernel_rfl) (fun _ _ _ h => h) (by intro w hSw; (try dsimp only at hSw); go_simp <;> with_reducible rfl) (by assumption) ?_; (try simp only [Act.put, lyA, lyB, lyC])
          refine tU 1 rfl (by kernel_rfl) (fun _ _ _ h => h) (by intro w hSw; (try dsimp only at hSw); go_simp <;> with_reducible rfl) (by assumption) ?_; (try simp only [Act.put, lyA, lyB, lyC])
          refine tU 2 rfl (by kernel_rfl) (fun _ _ _ h => h) (by intro w hSw; (try dsimp only at hSw); go_simp <;> with_reducible rfl) (by assumption) ?_; (try simp only [Act.put, lyA, lyB, lyC])
          refine tU 3 rfl (by kernel_rfl) (fun _ _ _ h => h) (by intro w hSw; (try dsimp only at hSw); go_simp <;> with_reducible rfl) (by assumption) ?_; (try simp only [Act.put, lyA, lyB, lyC])
          refine tU 4 rfl (by kernel_rfl) (fun _ _ _ h => h) (by intro w hSw; (try dsimp only at hSw); go_simp <;> with_reducible rfl) (by assumption) ?_; (try simp only [Act.put, lyA, lyB, lyC])
          refine tU 5 rfl (by kernel_rfl) (fun _ _ _ h => h) (by intro w hSw; (try dsimp only at hSw); go_simp <;> with_reducible rfl) (by assumption) ?_; (try simp only [Act.put, lyA, lyB, lyC])
          refine tU 6 rfl (by kernel_rfl) (fun _ _ _ h => h) (by intro w hSw; (try dsimp only at hSw); go_simp <;> with_reducible rfl) (by assumption) ?_; (try simp only [Act.put, lyA, lyB, lyC])
          refine tU 7 rfl (by kernel_rfl) (fun _ _ _ h => h) (by intro w hSw; (try dsimp only at hSw); go_simp <;> with_reducible rfl) (by assumption) ?_; (try simp only [Act.put, lyA, lyB, lyC])
          refine tU 8 rfl (by kernel_rfl) (fun _ _ _ h => h) (by intro w hSw; (try dsimp only at hSw); go_simp <;> with_reducible rfl) (by assumption) ?_; (try simp only [Act.put, lyA, lyB, lyC])
          refine wpAnyH_done (by kernel_rfl) ?_ _
          go_wp2_with fail
          go_ret
          exact ⟨by rw [decide_eq_false HF.out]; rfl, by (repeat (first | exact Below.refl _ _ | exact Ext.refl _ | assumption | refine Below.drew ?_ | refine below_drewN ?_ _ | refine below_alloc ?_ (by first | exact Nat.le_refl _ | assumption | (simp; done) | omega | (simp; omega)) _ | refine below_ext ?_ (by assumption) (by first | exact Nat.le_refl _ | assumption | (simp; done) | omega | (simp; omega)) | refine Ext.drew ?_ | refine Ext.drewN ?_ _ | refine Ext.alloc ?_ _ | refine Ext.setCell ?_ (by first | assumption | (simp; done) | (simp; omega)) _ | refine Below.setCell ?_ (by first | assumption | (simp; done) | (simp; omega)) _ | refine Ext.trans ?_ (by assumption)))⟩
      · obtain rfl : k = n := by omega
        have HE : Hid (xs = ys) := by
          have h := HK.out
          rw [List.take_of_length_le (by rw [← Hn.out]; exact Nat.le_refl _), List.take_of_length_le (by rw [← Hm.out]; exact Nat.le_refl _)] at h
          exact h
        go_wp2_with fail
        go_ret
        exact ⟨by rw [decide_eq_true HE.out]; rfl, e1⟩
  · have HF : Hid (xs ≠ ys) := fun e => hne (by rw [hn, hm, e])
    have hb : ((n : Int) != (m : Int)) = true := by simp; omega
    clear hn hm hr hs
    go_enter Tryz.func71, Tryz.ntmps71
    go_wp2_with fail
    go_ret
    exact ⟨by rw [decide_eq_false HF.out]; rfl, Ext.refl _⟩
end Go.Proofs.YtckaneapjpiocaaGreatDoor
/- Stages: what reads, and what it is to be the same. -/
namespace Go.Proofs.YtckaneapjpiocaaGreatDoor
open Go.RowKit
set_option linter.unusedVariables false
set_option linter.unusedSimpArgs false

def sumEq (x y : Su) : Bool := x.a == y.a && (x.b == y.b && (x.c == y.c && x.d == y.d))
def sameR (x y : Rec) : Bool :=
  x.kind == y.kind && (x.name.toList == y.name.toList && (x.frm == y.frm && (x.guid == y.guid && (x.index == y.index && (x.count == y.count && (x.data.toList == y.data.toList && (sumEq (sumR x) (sumR y) && decide (x.own = y.own))))))))
structure Stg.rd (w : World) (x : Stg) : Prop where
  begR : Rd w 0 w.heap.size x.beg.oA (prps x.beg.own)
  begL : x.beg.on = x.beg.own.length
  begN : x.beg.on ≤ 100000000
  bodyN : x.bn = x.body.length
  bodyM : x.bn ≤ 200000000
  bodyR : Rd w 0 w.heap.size x.bA (blks x.body)
theorem Stg.ok.rd {w : World} {x : Stg} (h : x.ok w) : x.rd w := ⟨h.begR, h.beg.own, h.begN, h.bodyN, by have := h.bodyM; omega, h.bodyR⟩
theorem Stg.rd.ext {w w' : World} {x : Stg} (h : x.rd w) (e : Ext w w') : x.rd w' := ⟨Rd.at h.begR e (Nat.le_refl _), h.begL, h.begN, h.bodyN, h.bodyM, Rd.at h.bodyR e (Nat.le_refl _)⟩
def sameS (x y : Stg) : Bool :=
  x.into.toList == y.into.toList && (sameR x.beg y.beg && (decide (x.body = y.body) && (x.pos == y.pos && (x.next == y.next && (sumEq x.su y.su && x.done == y.done)))))
end Go.Proofs.YtckaneapjpiocaaGreatDoor
/- A tenant's data: what reads. -/
namespace Go.Proofs.YtckaneapjpiocaaGreatDoor
open Go.RowKit Go.Maps Go.Sort Go.Shelf
set_option linter.unusedVariables false
set_option linter.unusedSimpArgs false

def strc (s : ByteArray) : List Value := [.string s]
theorem strs_flat (l : List ByteArray) : l.flatMap strc = l.map Value.string := by
  induction l with
  | nil => rfl
  | cons b l ih => rw [List.flatMap_cons, ih]; rfl
def sml (s : ByteArray) : Prop := s.size ≤ 1048576
abbrev Txs := Sl ByteArray
abbrev Txs.At (w : World) (lo hi : Nat) (s : Txs) : Prop := Sl.At w lo hi strc sml s
def Blk.sm (x : Blk) : Prop := Blk.wf x
def Prp.sm (x : Prp) : Prop := sml x.name ∧ sml x.value
abbrev Bks.At (w : World) (lo hi : Nat) (s : Sl Blk) : Prop := Sl.At w lo hi Blk.cells Blk.sm s
abbrev Pps.At (w : World) (lo hi : Nat) (s : Sl Prp) : Prop := Sl.At w lo hi Prp.cells Prp.sm s
/-- a snapshot -/
structure Sna where
  name : ByteArray
  guid : Int
  body : Sl Blk
  tags : Txs
  own : Sl Prp
def Sna.cells (x : Sna) : List Value := [.string x.name, .int .i64 x.guid, x.body.val, x.tags.val, x.own.val]
structure Sna.At (w : World) (lo hi : Nat) (x : Sna) : Prop where
  name : sml x.name
  guid : (Lit.int .i64 x.guid).wf = true
  body : Bks.At w lo hi x.body
  bodyS : x.body.n ≤ 1048576
  tags : Txs.At w lo hi x.tags
  own : Pps.At w lo hi x.own
  ownS : x.own.n ≤ 1048576
/-- a dataset -/
structure Dst where
  path : ByteArray
  origin : ByteArray
  body : Sl Blk
  snaps : Sl Sna
  own : Sl Prp
def Dst.cells (x : Dst) : List Value := [.string x.path, .string x.origin, x.body.val, x.snaps.val, x.own.val]
structure Dst.At (w : World) (lo hi : Nat) (x : Dst) : Prop where
  path : sml x.path
  origin : sml x.origin
  body : Bks.At w lo hi x.body
  bodyS : x.body.n ≤ 1048576
  snaps : Sl.At w lo hi Sna.cells (Sna.At w lo hi) x.snaps
  snapsS : x.snaps.n ≤ 1048576
  own : Pps.At w lo hi x.own
  ownS : x.own.n ≤ 1048576
/-- a grant -/
structure Gra where
  user : ByteArray
  path : ByteArray
  perms : Int
def Gra.cells (x : Gra) : List Value := [.string x.user, .string x.path, .int .i64 x.perms]
def Gra.sm (x : Gra) : Prop := sml x.user ∧ sml x.path ∧ (Lit.int .i64 x.perms).wf = true
/-- a line of a log -/
structure Lin where
  user : ByteArray
  kind : Int
  path : ByteArray
  err : Int
def Lin.cells (x : Lin) : List Value := [.string x.user, .int .i64 x.kind, .string x.path, .int .i64 x.err]
def Lin.sm (x : Lin) : Prop := sml x.user ∧ sml x.path ∧ (Lit.int .i64 x.kind).wf = true ∧ (Lit.int .i64 x.err).wf = true
/-- a stage: what reads -/
structure Stg.At (w : World) (lo hi : Nat) (x : Stg) : Prop where
  begR : Rd w lo hi x.beg.oA (prps x.beg.own)
  beg : x.beg.wf
  begN : x.beg.on ≤ 1048576
  begS : (sumR x.beg).wf
  bodyN : x.bn = x.body.length
  bodyM : x.bn ≤ 1048576
  bodyC : x.bn ≤ x.bc ∧ x.bc ≤ maxLen
  bodyR : Rd w lo hi x.bA (blks x.body)
  bodyW : ∀ b ∈ x.body, b.wf
  into : sml x.into
  pos : (Lit.int .i64 x.pos).wf = true
  next : (Lit.int .i64 x.next).wf = true
  su : x.su.wf
/-- a tenant -/
structure Tnt where
  name : ByteArray
  quota : Int
  next : Int
  sets : Sl Dst
  grants : Sl Gra
  stages : Sl Stg
  log : Sl Lin
def Tnt.cells (x : Tnt) : List Value := [.string x.name, .int .i64 x.quota, .int .i64 x.next, x.sets.val, x.grants.val, x.stages.val, x.log.val]
structure Tnt.At (w : World) (lo hi : Nat) (x : Tnt) : Prop where
  name : sml x.name
  quota : (Lit.int .i64 x.quota).wf = true
  next : (Lit.int .i64 x.next).wf = true
  sets : Sl.At w lo hi Dst.cells (Dst.At w lo hi) x.sets
  grants : Sl.At w lo hi Gra.cells Gra.sm x.grants
  stages : Sl.At w lo hi Stg.cells (Stg.At w lo hi) x.stages
  log : Sl.At w lo hi Lin.cells Lin.sm x.log
section
variable {w w' : World} {lo hi lo' hi' : Nat}
theorem Sna.At.imp {x : Sna} (h : Sna.At w lo hi x) (hr : ∀ A cs, Rd w lo hi A cs → Rd w' lo' hi' A cs) : Sna.At w' lo' hi' x := ⟨h.name, h.guid, Sl.At.imp h.body (hr _ _) (fun _ h => h), h.bodyS, Sl.At.imp h.tags (hr _ _) (fun _ h => h), Sl.At.imp h.own (hr _ _) (fun _ h => h), h.ownS⟩
theorem Dst.At.imp {x : Dst} (h : Dst.At w lo hi x) (hr : ∀ A cs, Rd w lo hi A cs → Rd w' lo' hi' A cs) : Dst.At w' lo' hi' x := ⟨h.path, h.origin, Sl.At.imp h.body (hr _ _) (fun _ h => h), h.bodyS, Sl.At.imp h.snaps (hr _ _) (fun _ hx => Sna.At.imp hx hr), h.snapsS, Sl.At.imp h.own (hr _ _) (fun _ h => h), h.ownS⟩
theorem Stg.At.imp {x : Stg} (h : Stg.At w lo hi x) (hr : ∀ A cs, Rd w lo hi A cs → Rd w' lo' hi' A cs) : Stg.At w' lo' hi' x := ⟨hr _ _ h.begR, h.beg, h.begN, h.begS, h.bodyN, h.bodyM, h.bodyC, hr _ _ h.bodyR, h.bodyW, h.into, h.pos, h.next, h.su⟩
theorem Tnt.At.imp {x : Tnt} (h : Tnt.At w lo hi x) (hr : ∀ A cs, Rd w lo hi A cs → Rd w' lo' hi' A cs) : Tnt.At w' lo' hi' x := ⟨h.name, h.quota, h.next, Sl.At.imp h.sets (hr _ _) (fun _ hx => Dst.At.imp hx hr), Sl.At.imp h.grants (hr _ _) (fun _ h => h), Sl.At.imp h.stages (hr _ _) (fun _ hx => Stg.At.imp hx hr), Sl.At.imp h.log (hr _ _) (fun _ h => h)⟩
theorem Sna.At.on {x : Sna} (h : Sna.At w lo hi x) (e : Ext w w') (hh : hi ≤ w.heap.size) : Sna.At w' lo w'.heap.size x := h.imp (rd_on e hh)
theorem Dst.At.on {x : Dst} (h : Dst.At w lo hi x) (e : Ext w w') (hh : hi ≤ w.heap.size) : Dst.At w' lo w'.heap.size x := h.imp (rd_on e hh)
theorem Stg.At.on {x : Stg} (h : Stg.At w lo hi x) (e : Ext w w') (hh : hi ≤ w.heap.size) : Stg.At w' lo w'.heap.size x := h.imp (rd_on e hh)
theorem Tnt.At.on {x : Tnt} (h : Tnt.At w lo hi x) (e : Ext w w') (hh : hi ≤ w.heap.size) : Tnt.At w' lo w'.heap.size x := h.imp (rd_on e hh)
theorem sl_on {α : Type} {cells : α → List Value} {I I' : α → Prop} {s : Sl α} (h : Sl.At w lo hi cells I s) (e : Ext w w') (hh : hi ≤ w.heap.size) (hi : ∀ x, I x → I' x) : Sl.At w' lo w'.heap.size cells I' s := Sl.At.imp h (rd_on e hh _ _) hi
end
/-- the first place at which something holds, or -1 -/
def findI {α : Type} (p : α → Bool) : List α → Int
  | [] => -1
  | x :: l => if p x = true then 0 else if findI p l < 0 then -1 else findI p l + 1
theorem findI_ge {α : Type} (p : α → Bool) : ∀ l : List α, -1 ≤ findI p l ∧ findI p l < (l.length : Int)
  | [] => by simp [findI]
  | x :: l => by
    have := findI_ge p l
    rw [findI, List.length_cons]
    split
    · omega
    · split <;> omega
theorem findI_at {α : Type} (p : α → Bool) : ∀ (l : List α) (k : Nat) (h : k < l.length), (∀ x ∈ l.take k, p x = false) → p l[k] = true → findI p l = (k : Int)
  | x :: l, 0, _, _, hp => by rw [findI, if_pos (by simpa using hp)]; rfl
  | x :: l, k + 1, h, hk, hp => by
    have h1 : p x = false := hk x (by simp)
    have ih := findI_at p l k (by simpa using h) (fun y hy => hk y (by simp [hy])) (by simpa using hp)
    rw [findI, if_neg (by rw [h1]; decide), if_neg (by omega), ih]
    omega
theorem findI_none {α : Type} (p : α → Bool) : ∀ l : List α, (∀ x ∈ l, p x = false) → findI p l = -1
  | [], _ => rfl
  | x :: l, h => by
    have h1 : p x = false := h x (by simp)
    have ih := findI_none p l (fun y hy => h y (by simp [hy]))
    rw [findI, if_neg (by rw [h1]; decide), ih]; rfl
theorem findI_spec {α : Type} (p : α → Bool) : ∀ l : List α, 0 ≤ findI p l → ∃ h : (findI p l).toNat < l.length, p (l[(findI p l).toNat]) = true
  | [], h => absurd h (by show ¬ (0 : Int) ≤ -1; decide)
  | x :: l, h => by
    rw [findI] at h
    by_cases hp : p x = true
    · have e : findI p (x :: l) = 0 := by rw [findI, if_pos hp]
      rw [e]
      exact ⟨by simp, by simpa using hp⟩
    · rw [if_neg hp] at h
      by_cases h0 : findI p l < 0
      · rw [if_pos h0] at h; omega
      · obtain ⟨h1, h2⟩ := findI_spec p l (by omega)
        have e : findI p (x :: l) = findI p l + 1 := by rw [findI, if_neg hp, if_neg h0]
        rw [e]
        have e2 : (findI p l + 1).toNat = (findI p l).toNat + 1 := by omega
        rw [e2]
        exact ⟨by simpa using h1, by simpa using h2⟩
end Go.Proofs.YtckaneapjpiocaaGreatDoor
/- When a tenant may be: the plain law. -/
namespace Go.Proofs.YtckaneapjpiocaaGreatDoor
open Go.RowKit Go.Maps Go.Sort Go.Shelf
set_option linter.unusedVariables false
set_option linter.unusedSimpArgs false

def amtB (n least : Int) : Bool := decide (least ≤ n) && decide (n ≤ 1099511627776)
/-- what a path stands under -/
def parO (s : ByteArray) : Option ByteArray := if s.size = 0 then none else if pathB s = true then some (s.extract 0 (max (Go.Lib.lastIndexByte s 47) 0).toNat) else none
/-- a snapshot's path and name -/
def atI (s : ByteArray) : Int := Go.Lib.index s.data.toList [64]
def splP (s : ByteArray) : ByteArray := s.extract 0 (atI s).toNat
def splN (s : ByteArray) : ByteArray := s.extract ((atI s).toNat + 1) s.size
def splB (s : ByteArray) : Bool := decide (0 ≤ atI s) && (pathB (splP s) && nameB (splN s))
/-- do texts rise? -/
def risS (l : List ByteArray) : Bool := (List.range (l.length - 1)).all fun k => lessB (l.getD k .empty) (l.getD (k + 1) .empty)
def risN (l : List Int) : Bool := (List.range (l.length - 1)).all fun k => decide (l.getD k 0 < l.getD (k + 1) 0)
def hasS (l : List ByteArray) (x : ByteArray) : Bool := l.any fun y => decide (y = x)
theorem hasS_iff (l : List ByteArray) (x : ByteArray) : hasS l x = true ↔ x ∈ l := by
  rw [hasS, List.any_eq_true]
  constructor
  · rintro ⟨y, hy, e⟩
    rw [decide_eq_true_eq] at e
    exact e ▸ hy
  · intro h
    exact ⟨x, h, decide_eq_true rfl⟩
/-- names, none twice -/
def unlB (l : List ByteArray) : Bool := (List.range l.length).all fun k => nameB (l.getD k .empty) && !hasS (l.take k) (l.getD k .empty)
def tagB (l : List ByteArray) : Bool := decide (l.length ≤ 4) && (l.all nameB && risS l)
def snB (x : Sna) : Bool := amtB x.guid 1 && (decide (bkE x.body.xs = 0) && (decide (prE x.own.xs = 0) && tagB x.tags.xs))
def snsB (l : List Sna) : Bool := decide (l.length ≤ 16) && (l.all snB && (risN (l.map Sna.guid) && unlB (l.map Sna.name)))
def atS (sets : List Dst) (p : ByteArray) : Int := findI (fun x : Dst => decide (x.path = p)) sets
def snO (sets : List Dst) (p n : ByteArray) : Int := findI (fun x : Sna => decide (x.name = n)) ((sets.map fun x => x.snaps.xs).getD (atS sets p).toNat [])
def orB (sets : List Dst) (x : Dst) : Bool := decide (x.origin.size = 0) || (splB x.origin && (decide (splP x.origin ≠ x.path) && (decide (0 ≤ atS sets (splP x.origin)) && decide (0 ≤ snO sets (splP x.origin) (splN x.origin)))))
def upB (sets : List Dst) (x : Dst) : Bool := match parO x.path with
  | none => true
  | some up => decide (0 ≤ atS sets up)
def seB (sets : List Dst) (x : Dst) : Bool := pathB x.path && (upB sets x && (decide (prE x.own.xs = 0) && (decide (bkE x.body.xs = 0) && (snsB x.snaps.xs && orB sets x))))
def setsB (sets : List Dst) : Bool := decide (sets.length ≤ 32) && (decide (0 ≤ atS sets .empty) && (sets.all (seB sets) && risS (sets.map Dst.path)))
def ltG (x y : Gra) : Bool := lessB x.user y.user || (decide (x.user = y.user) && lessB x.path y.path)
def grB1 (x : Gra) : Bool := nameB x.user && (pathB x.path && (decide (1 ≤ x.perms) && decide (x.perms ≤ 255)))
def zG : Gra := ⟨.empty, .empty, 0⟩
def grB (l : List Gra) : Bool := decide (l.length ≤ 16) && (l.all grB1 && (List.range (l.length - 1)).all fun k => ltG (l.getD k zG) (l.getD (k + 1) zG))
def stsB (l : List Stg) : Bool := decide (l.length ≤ 4) && (l.all stB && risS (l.map Stg.into))
def liB (x : Lin) : Bool := (decide (x.user.size = 0) || nameB x.user) && (pathB x.path && (amtB x.kind 0 && amtB x.err 0))
/-- may a tenant be? -/
def tenB (t : Tnt) : Bool := nameB t.name && (amtB t.quota 0 && (amtB t.next 1 && (setsB t.sets.xs && (grB t.grants.xs && (stsB t.stages.xs && (decide (t.log.xs.length ≤ 16) && t.log.xs.all liB))))))
def tenE (t : Tnt) : Int := if tenB t = true then 0 else 9
/-- a list is walked up to a place: each item may be, and stands behind the one ahead of it -/
theorem upto_all {α : Type} (p : α → Bool) (l : List α) (k : Nat) (h : k < l.length) : (l.take (k + 1)).all p = ((l.take k).all p && p l[k]) := by
  rw [List.take_succ_eq_append_getElem h, List.all_append]; simp
theorem all_no {α : Type} (p : α → Bool) (l : List α) (k : Nat) (h : k < l.length) (hp : p l[k] = false) : l.all p = false := by
  rw [List.all_eq_false]
  exact ⟨l[k], List.getElem_mem h, by rw [hp]; decide⟩
theorem risS_no (l : List ByteArray) (k : Nat) (h : k + 1 < l.length) (hp : lessB l[k] l[k + 1] = false) : risS l = false := by
  rw [risS, List.all_eq_false]
  refine ⟨k, List.mem_range.2 (by omega), ?_⟩
  simp [List.getD, List.getElem?_eq_getElem h, List.getElem?_eq_getElem (show k < l.length by omega), hp]
theorem risS_yes (l : List ByteArray) (hp : ∀ k (h : k + 1 < l.length), lessB l[k] l[k + 1] = true) : risS l = true := by
  rw [risS, List.all_eq_true]
  intro k hk
  have hk := List.mem_range.1 hk
  simp [List.getD, List.getElem?_eq_getElem (show k + 1 < l.length by omega), List.getElem?_eq_getElem (show k < l.length by omega), hp k (by omega)]
theorem risN_no (l : List Int) (k : Nat) (h : k + 1 < l.length) (hp : ¬ l[k] < l[k + 1]) : risN l = false := by
  rw [risN, List.all_eq_false]
  refine ⟨k, List.mem_range.2 (by omega), ?_⟩
  simp [List.getD, List.getElem?_eq_getElem h, List.getElem?_eq_getElem (show k < l.length by omega)]
  omega
theorem risN_yes (l : List Int) (hp : ∀ k (h : k + 1 < l.length), l[k] < l[k + 1]) : risN l = true := by
  rw [risN, List.all_eq_true]
  intro k hk
  have hk := List.mem_range.1 hk
  simp [List.getD, List.getElem?_eq_getElem (show k + 1 < l.length by omega), List.getElem?_eq_getElem (show k < l.length by omega), hp k (by omega)]
end Go.Proofs.YtckaneapjpiocaaGreatDoor
/- (a stub: see Obd) -/
namespace Go.Proofs.YtckaneapjpiocaaGreatDoor
end Go.Proofs.YtckaneapjpiocaaGreatDoor
/- store.numbers. -/
namespace Go.Proofs.YtckaneapjpiocaaGreatDoor
open Go.RowKit Go.Maps Go.Sort Go.Shelf
set_option linter.unusedVariables false
set_option linter.unusedSimpArgs false

/-- sectors as one text -/
def numsO (l : List Int) : List UInt8 := l.flatMap fun y => puts y 8
theorem numsO_take (l : List Int) (k : Nat) (h : k < l.length) : numsO (l.take (k + 1)) = numsO (l.take k) ++ puts l[k] 8 := by
  rw [List.take_succ_eq_append_getElem h, numsO, List.flatMap_append]; simp [numsO]
theorem numsO_len (l : List Int) : (numsO l).length = 8 * l.length := by
  induction l with
  | nil => rfl
  | cons x l ih => rw [numsO, List.flatMap_cons, List.length_append, puts_length, show (l.flatMap fun y => puts y 8).length = _ from ih, List.length_cons]; omega
theorem int_wf {y : Int} (h : (Lit.int .i64 y).wf = true) : -9223372036854775808 ≤ y ∧ y ≤ 9223372036854775807 := by
  simp only [Lit.wf, Bool.and_eq_true, decide_eq_true_eq] at h
  exact ⟨h.1, h.2⟩
set_option maxRecDepth 100000 in
set_option maxHeartbeats 4000000 in
theorem snums_any (w : World) (s : Loc) (h : Loc.At w 0 w.heap.size s) (hT : s.n ≤ 10000000) : Calls Tryz.prog 96 #[s.val] w fun e w' => e = .returned (.string ⟨(numsO s.xs).toArray⟩) ∧ Ext w w' := by
  obtain ⟨i0, hi0, hz0, hz1, hz2⟩ := info_parts info5
  have HI := Lib.hid h
  have HW := Lib.hid h.all
  clear h
  obtain ⟨A, n, c, xs⟩ := s
  have Hn := Lib.hid (show n = xs.length from HI.out.len)
  simp only [Sl.val] at *
  go_enter Tryz.func96, Tryz.ntmps96
  go_upto_region 3 with fail
  have HH := Lib.hid (show Heap w [.row 5 1 (.slice none 0 0) 0 []] w from (Heap.start w).row0)
  go_loopw [3, 8] (fun v i wr => ∃ k : Nat, k ≤ n ∧ i = .int .i64 k ∧ (∃ vA vc, v = .slice vA (8 * k) vc ∧ Hid (Heap w [.row 5 1 (.slice vA (8 * k) vc) (8 * k) (bytes (numsO (xs.take k)))] wr))) (fun _ i _ => n - (intOf i).toNat)
  case atStart => exact ⟨0, Nat.zero_le _, rfl, _, _, rfl, HH⟩
  case round =>
    clear HH
    obtain ⟨k, hk, rfl, vA, vc, rfl, HH⟩ := hrel
    by_cases hlt : k < n
    · have l1 : k < xs.length := by rw [← Hn.out]; exact hlt
      obtain ⟨b1, o1, rfl, _, f0⟩ := rd_int2 (Rd.at HI.out.rdi HH.out.ext (Nat.le_refl _)) l1
      have HS := Lib.hid (numsO_take xs k l1)
      have hy := int_wf (HW.out _ (List.getElem_mem l1))
      generalize numsO (xs.take k) = Y at *
      generalize xs[k] = y at *
      go_wp2_with fail
      refine (put_any y _ 8 (Nat.le_refl _) rfl _ hy.1 hy.2).mono ?_
      rintro e w2 ⟨v2, rfl, hown2, e2⟩
      obtain ⟨A2, c2, rfl, _, _, _⟩ := own_form hown2
      have HH2 := Lib.hid (HH.out.addRow e2 hown2)
      clear HH hown2 e2 f0
      have HH := HH2
      clear HH2
      go_wp2_with (at_builtin; refine shl_app (e := 5) (size := 1) (bytes := 1) (news := bytes (puts y 8)) (lo := w.heap.size) (.tmp 12) (.tmp 14) _ rfl rfl Tryz.underlying53 hi0 hz0 hz1 hz2 rfl (by omega) HH.out 1 rfl rfl (m := 8) rfl (by rw [bytes_length, puts_length]) (HH.out.rowRd 0 rfl) (bytes_one _) (by simp only [maxLen]; omega) (by omega) ?_; intro v7 w7 hh7 h7; obtain ⟨A7, c7, rfl⟩ := h7; have HH7 := Lib.hid hh7.tail; clear HH hh7)
      go_roundw
      case rel =>
        refine ⟨k + 1, by omega, by go_num, A7, c7, rfl, ?_⟩
        have h := HH7.out
        rw [← bytes_append, ← HS.out] at h
        exact Lib.hid h
      case measure => simp [intOf]; omega
    · obtain rfl : k = n := by omega
      have ht : xs.take k = xs := List.take_of_length_le (by rw [← Hn.out]; exact Nat.le_refl _)
      rw [ht] at HH
      have hcv : (convert 53 9 (.slice vA (8 * k) vc)).run Tryz.prog wr = .ok (.string ⟨(numsO xs).toArray⟩) wr := run_conv_str wr _ _ 5 Tryz.underlying53 Tryz.underlying5 Tryz.underlying9 _ _ vA (8 * k) vc (numsO xs) (by rw [numsO_len, ← Hn.out]) (HH.out.rowRd 0 rfl)
      clear ht
      go_wp2_with fail
      go_ret
      exact ⟨rfl, HH.out.ext⟩
end Go.Proofs.YtckaneapjpiocaaGreatDoor
/- store.index. -/
namespace Go.Proofs.YtckaneapjpiocaaGreatDoor
open Go.RowKit Go.Maps Go.Sort Go.Shelf
set_option linter.unusedVariables false
set_option linter.unusedSimpArgs false

/-- an index's texts -/
def idxT (l : List Ob) : List ByteArray := l.flatMap fun x => [x.key, num8 (x.data.n : Int), ⟨(numsO x.locs.xs).toArray⟩]
theorem idxT_take (l : List Ob) (k : Nat) (h : k < l.length) : idxT (l.take (k + 1)) = idxT (l.take k) ++ [l[k].key, num8 (l[k].data.n : Int), ⟨(numsO l[k].locs.xs).toArray⟩] := by
  rw [List.take_succ_eq_append_getElem h, idxT, List.flatMap_append]; simp [idxT]
theorem idxT_len (l : List Ob) : (idxT l).length = 3 * l.length := by
  induction l with
  | nil => rfl
  | cons x l ih => rw [idxT, List.flatMap_cons, List.length_append, show (l.flatMap _).length = _ from ih, List.length_cons]; simp; omega
set_option maxRecDepth 100000 in
set_option maxHeartbeats 8000000 in
theorem index_any (w : World) (s : Sl Ob) (h : Sl.At w 0 w.heap.size Ob.cells (Ob.At w 0 w.heap.size) s) (hN : s.n ≤ 10000000) (hL : ∀ x ∈ s.xs, x.locs.n ≤ 10000000) : Calls Tryz.prog 42 #[s.val] w (WriteOk (idxT s.xs) w) := by
  obtain ⟨i0, hi0, hz0, hz1, hz2⟩ := info_parts info9
  have HR := Lib.hid h.rd
  have HA := Lib.hid h.all
  have Hn := Lib.hid h.len
  have HLm := Lib.hid hL
  clear h hL
  obtain ⟨A, n, c, xs⟩ := s
  simp only [Sl.val] at *
  go_enter Tryz.func42, Tryz.ntmps42
  go_upto_region 3 with fail
  have HH := Lib.hid (show Heap w [.row 9 1 (.slice none 0 0) 0 []] w from (Heap.start w).row0)
  go_loopw [4, 9] (fun v i wr => ∃ k : Nat, k ≤ n ∧ i = .int .i64 k ∧ (∃ vA vc, v = .slice vA (3 * k) vc ∧ Hid (Heap w [.row 9 1 (.slice vA (3 * k) vc) (3 * k) ((idxT (xs.take k)).map Value.string)] wr))) (fun _ i _ => n - (intOf i).toNat)
  case atStart => exact ⟨0, Nat.zero_le _, rfl, _, _, rfl, HH⟩
  case round =>
    clear HH
    obtain ⟨k, hk, rfl, vA, vc, rfl, HH⟩ := hrel
    by_cases hlt : k < n
    · have l1 : k < xs.length := by rw [← Hn.out]; exact hlt
      obtain ⟨b1, o1, rfl, hb1, f0, f1, f2⟩ := rd_ob (HR.out.ext HH.out.ext (Nat.le_refl _)) l1
      have HL := Lib.hid (HA.out _ (List.getElem_mem l1))
      have hlm := HLm.out _ (List.getElem_mem l1)
      have HS := Lib.hid (idxT_take xs k l1)
      generalize idxT (xs.take k) = Y at *
      generalize xs[k] = x at *
      obtain ⟨key, ⟨dA, dn, dc, dx⟩, lo⟩ := x
      have hdn : dn ≤ 9223372036854775807 := Nat.le_trans HL.out.data.le HL.out.data.cap
      simp only [Sl.val] at f1
      dsimp only at f0 f2 hlm
      have HNs := Lib.hid (fun W (hW : Ext w W) => snums_any W lo (Loc.At.on HL.out.locs hW (Nat.le_refl _)) hlm)
      obtain ⟨lA, ln, lc, lx⟩ := lo
      simp only [Sl.val] at f2 HNs
      clear HL
      go_upto_region 5 with fail
      generalize hwH : World.alloc wr _ = w5
      have HH2 := Lib.hid (HH.out.allocE hwH)
      clear HH hwH f0 f1 f2
      have HHd := Lib.hid HH2.out.drew
      clear HH2
      refine wp_region_held_drew (S := Heap w [_]) (by kernel_rfl) (HHd.out.only 0 rfl) (fun hHeld => ?_)
      generalize World.drew w5 = wd at *
      refine tU 0 rfl (by kernel_rfl) (fun _ _ _ h => h) (by intro w hSw; (try dsimp only at hSw); go_simp <;> with_reducible rfl) (by assumption) ?_; (try simp only [Act.put, lyA, lyB, lyC])
      refine tU 1 rfl (by kernel_rfl) (fun _ _ _ h => h) (by intro w hSw; (try dsimp only at hSw); go_simp <;> with_reducible rfl) (by assumption) ?_; (try simp only [Act.put, lyA, lyB, lyC])
      refine takeL 2 rfl (by kernel_rfl) (by kernel_rfl) (by kernel_rfl) (fun _ _ _ h => h) (by kernel_rfl) (fun wT hST => sh_run_load1 hST rfl rfl 0 rfl rfl (by kernel_rfl)) hHeld ?_; (try simp only [Act.put, lyA, lyB, lyC])
      refine tU 3 rfl (by kernel_rfl) (fun _ _ _ h => h) (by intro w hSw; (try dsimp only at hSw); go_simp <;> with_reducible rfl) (by assumption) ?_; (try simp only [Act.put, lyA, lyB, lyC])
      refine takeL 4 rfl (by kernel_rfl) (by kernel_rfl) (by kernel_rfl) (fun _ _ _ h => h) (by kernel_rfl) (fun wT hST => sh_run_load1 hST rfl rfl 0 rfl rfl (by kernel_rfl)) hHeld ?_; (try simp only [Act.put, lyA, lyB, lyC])
      refine tU 5 rfl (by kernel_rfl) (fun _ _ _ h => h) (by intro w hSw; (try dsimp only at hSw); go_simp <;> with_reducible rfl) (by assumption) ?_; (try simp only [Act.put, lyA, lyB, lyC])
      refine tU 10 rfl (by kernel_rfl) (fun _ _ _ h => h) (by intro w hSw; (try dsimp only at hSw); go_simp <;> with_reducible rfl) (by assumption) ?_; (try simp only [Act.put, lyA, lyB, lyC])
      refine takeL 11 rfl (by kernel_rfl) (by kernel_rfl) (by kernel_rfl) (fun _ _ _ h => h) (by kernel_rfl) (fun wT hST => sh_run_load1 hST rfl rfl 0 rfl rfl (by kernel_rfl)) hHeld ?_; (try simp only [Act.put, lyA, lyB, lyC])
      refine oneL 6 rfl (by kernel_rfl) (by kernel_rfl) (fun K hK => ?_)
      go_simp; generalize hwA : World.alloc _ _ = w6; have HH6 := Lib.hid ((HHd).out.allocE hwA); clear hwA HHd
      refine hK.out _ _ ((HH6).out.only 1 rfl) (fun hHeld => ?_); clear hK K; (try simp only [Act.put, lyA, lyB, lyC])
      refine oneL 7 rfl (by kernel_rfl) (by kernel_rfl) (fun K hK => ?_)
      go_simp; refine (numbers_any w6 _ 1 1 [(dn : Int)] rfl ((HH6.out.boxRd 0 rfl).more (Nat.zero_le _) (Nat.le_refl _)) (by omega) (by simp; omega)).mono ?_; rintro e w7 ⟨vw7, rfl, hownw7, ew7⟩; obtain ⟨Aw7, cw7, rfl, _, _, _⟩ := own_form hownw7; have HH7 := Lib.hid ((HH6).out.addRow ew7 hownw7); clear HH6 hownw7 ew7; go_wp2_with fail
      obtain ⟨g7, q7, hf⟩ := HH7.out.rowForm 0 rfl (by decide)
      cases hf
      refine hK.out _ _ ((HH7).out.only 2 rfl) (fun hHeld => ?_); clear hK K; (try simp only [Act.put, lyA, lyB, lyC])
      refine tU 8 rfl (by kernel_rfl) (fun _ _ _ h => h) (by intro w hSw; (try dsimp only at hSw); go_simp <;> with_reducible rfl) (by assumption) ?_; (try simp only [Act.put, lyA, lyB, lyC])
      refine twoH 9 12 rfl rfl (by kernel_rfl) (by kernel_rfl) (by kernel_rfl) (fun K hK => ?_) (fun K hK => ?_)
      · have c7 : w7.cell? ⟨g7, 0, none⟩ = some (.string (num8 dn)) := (HH7.out.rowAt 0 rfl).cellAt 0 (by decide)
        go_simp
        refine hK.out _ _ ((HH7).out.only 2 rfl) (fun hHeld => ?_); clear hK K; (try simp only [Act.put, lyA, lyB, lyC])
        clear c7
        refine oneL 12 rfl (by kernel_rfl) (by kernel_rfl) (fun K hK => ?_)
        go_simp; refine (HNs.out w7 HH7.out.ext).mono ?_; rintro e w8 ⟨rfl, ew8⟩; have HH8 := Lib.hid ((HH7).out.later ew8); clear HH7 ew8; go_wp2_with fail
        refine hK.out _ _ ((HH8).out.only 2 rfl) (fun hHeld => ?_); clear hK K; (try simp only [Act.put, lyA, lyB, lyC])
        refine oneL 13 rfl (by kernel_rfl) (by kernel_rfl) (fun K hK => ?_)
        go_simp; generalize hwA : World.alloc _ _ = w9; have HH9 := Lib.hid ((HH8).out.allocE hwA); clear hwA HH8; refine hK.out _ _ ((HH9).out.only 3 rfl) (fun hHeld => ?_); clear hK K; (try simp only [Act.put, lyA, lyB, lyC]); refine oneL 14 rfl (by kernel_rfl) (by kernel_rfl) (fun K hK => ?_); refine sh_app (.tmp 13) (.tmp 26) _ rfl Tryz.underlying109 hi0 hz0 hz1 hz2 rfl (by omega) HH9.out 4 rfl rfl (m := 3) rfl rfl ((HH9.out.boxRd 0 rfl).more (Nat.zero_le _) (Nat.le_refl _)) (by simp [Value.oneCell']) (by simp only [maxLen]; omega) (by omega) ?_; rintro v10 w10 hh10 ⟨A10, c10, rfl⟩; have HH10 := Lib.hid hh10; clear hh10 HH9; refine hK.out _ _ ((HH10).out.only 3 rfl) (fun hHeld => ?_); clear hK K; (try simp only [Act.put, lyA, lyB, lyC]); refine tU 15 rfl (by kernel_rfl) (fun _ _ _ h => h) (by intro w hSw; (try dsimp only at hSw); go_simp <;> with_reducible rfl) (by assumption) ?_; (try simp only [Act.put, lyA, lyB, lyC]); refine wpAnyH_done (by kernel_rfl) ?_ _; go_wp2_with fail; go_roundw; (case rel => refine ⟨k + 1, by omega, by go_num, A10, c10, rfl, ?_⟩; have h := HH10.out.only 4 rfl; rw [HS.out, List.map_append]; exact Lib.hid h); (case measure => simp [intOf]; omega)
      · go_simp
        refine (HNs.out w7 HH7.out.ext).mono ?_
        rintro e w8 ⟨rfl, e8⟩
        have HH8 := Lib.hid (HH7.out.later e8)
        clear HH7 e8
        go_wp2_with fail
        refine hK.out _ _ ((HH8).out.only 2 rfl) (fun hHeld => ?_); clear hK K; (try simp only [Act.put, lyA, lyB, lyC])
        have c7 : w8.cell? ⟨g7, 0, none⟩ = some (.string (num8 dn)) := (HH8.out.rowAt 0 rfl).cellAt 0 (by decide)
        refine oneL 9 rfl (by kernel_rfl) (by kernel_rfl) (fun K hK => ?_)
        go_simp
        refine hK.out _ _ ((HH8).out.only 2 rfl) (fun hHeld => ?_); clear hK K; (try simp only [Act.put, lyA, lyB, lyC])
        clear c7
        refine oneL 13 rfl (by kernel_rfl) (by kernel_rfl) (fun K hK => ?_)
        go_simp; generalize hwA : World.alloc _ _ = w9; have HH9 := Lib.hid ((HH8).out.allocE hwA); clear hwA HH8; refine hK.out _ _ ((HH9).out.only 3 rfl) (fun hHeld => ?_); clear hK K; (try simp only [Act.put, lyA, lyB, lyC]); refine oneL 14 rfl (by kernel_rfl) (by kernel_rfl) (fun K hK => ?_); refine sh_app (.tmp 13) (.tmp 26) _ rfl Tryz.underlying109 hi0 hz0 hz1 hz2 rfl (by omega) HH9.out 4 rfl rfl (m := 3) rfl rfl ((HH9.out.boxRd 0 rfl).more (Nat.zero_le _) (Nat.le_refl _)) (by simp [Value.oneCell']) (by simp only [maxLen]; omega) (by omega) ?_; rintro v10 w10 hh10 ⟨A10, c10, rfl⟩; have HH10 := Lib.hid hh10; clear hh10 HH9; refine hK.out _ _ ((HH10).out.only 3 rfl) (fun hHeld => ?_); clear hK K; (try simp only [Act.put, lyA, lyB, lyC]); refine tU 15 rfl (by kernel_rfl) (fun _ _ _ h => h) (by intro w hSw; (try dsimp only at hSw); go_simp <;> with_reducible rfl) (by assumption) ?_; (try simp only [Act.put, lyA, lyB, lyC]); refine wpAnyH_done (by kernel_rfl) ?_ _; go_wp2_with fail; go_roundw; (case rel => refine ⟨k + 1, by omega, by go_num, A10, c10, rfl, ?_⟩; have h := HH10.out.only 4 rfl; rw [HS.out, List.map_append]; exact Lib.hid h); (case measure => simp [intOf]; omega)
    · obtain rfl : k = n := by omega
      have ht : xs.take k = xs := List.take_of_length_le (by rw [← Hn.out]; exact Nat.le_refl _)
      rw [ht] at HH
      have HWr := Lib.hid (write_any wr vA (3 * k) vc (idxT xs) (by rw [idxT_len, ← Hn.out]) (by omega) ((HH.out.rowRd 0 rfl).more (Nat.zero_le _) (Nat.le_refl _)))
      clear ht
      go_wp2_with fail
      refine HWr.out.mono ?_
      rintro e w8 ⟨v, rfl, hr8, e8⟩
      have HO := Lib.hid (own_lower hr8 HH.out.ext.size)
      clear hr8
      go_wp2_with fail
      go_ret2
      exact ⟨v, rfl, HO.out, HH.out.ext.trans e8⟩

end Go.Proofs.YtckaneapjpiocaaGreatDoor
