/- The texts StgS, Bsm, Psm, Stgd, Tnt, Tck, Ns, Tpl in one file. -/
import Derived.Test.YtckaneapjpiocaaGreatDoorM8
import Derived.Test.YtckaneapjpiocaaGreatDoorM9
import Derived.Test.YtckaneapjpiocaaGreatDoorM10
import Derived.Test.YtckaneapjpiocaaGreatDoorM6
import Derived.Test.YtckaneapjpiocaaGreatDoorM2
namespace Go.Proofs.YtckaneapjpiocaaGreatDoor
open Go.RowKit
set_option linter.unusedVariables false
set_option linter.unusedSimpArgs false
structure Stg where
  into : ByteArray
  beg : Rec
  bA : Option Addr
  bn : Nat
  bc : Nat
  body : List Blk
  pos : Int
  next : Int
  su : Su
  done : Bool
def Stg.cells (x : Stg) : List Value := .string x.into :: (x.beg.cells ++ (.slice x.bA x.bn x.bc :: .int .i64 x.pos :: .int .i64 x.next :: (x.su.cells ++ [.bool x.done])))
structure Stg.ok (w : World) (x : Stg) : Prop where
  into : x.into.size ≤ 100000000
  beg : x.beg.wf
  begR : Rd w 0 w.heap.size x.beg.oA (prps x.beg.own)
  begN : x.beg.on ≤ 100000000
  begS : (sumR x.beg).wf
  bodyN : x.bn = x.body.length
  bodyM : x.bn ≤ 100000000
  bodyR : Rd w 0 w.heap.size x.bA (blks x.body)
  bodyW : ∀ y ∈ x.body, y.wf
  pos : -9223372036854775808 ≤ x.pos ∧ x.pos ≤ 9223372036854775807
  next : -9223372036854775808 ≤ x.next ∧ x.next ≤ 9223372036854775807
  su : x.su.wf
theorem Stg.ok.ext {w w' : World} {x : Stg} (h : x.ok w) (e : Ext w w') : x.ok w' :=
  ⟨h.into, h.beg, Rd.at h.begR e (Nat.le_refl _), h.begN, h.begS, h.bodyN, h.bodyM, Rd.at h.bodyR e (Nat.le_refl _), h.bodyW, h.pos, h.next, h.su⟩
def amt (n : Int) : Bool := decide (0 ≤ n) && decide (n ≤ 1099511627776)
def stB (x : Stg) : Bool := !x.into.toList.isEmpty && (pathB x.into && (x.beg.kind == 1 && (decide (recE x.beg = 0) && (decide (bkE x.body = 0) && (amt x.pos && amt x.next)))))
theorem sizeStg : (Tryz.prog.info? 49).map (·.size) = some 21 := by kernel_rfl
open Go.RowKit
set_option linter.unusedVariables false
set_option linter.unusedSimpArgs false
instance : DecidableEq Blk := fun a b => decidable_of_iff (a.index = b.index ∧ a.data = b.data) (by cases a; cases b; simp)
theorem take_eq_succ {xs ys : List Blk} {k : Nat} (h1 : k < xs.length) (h2 : k < ys.length) (h : xs.take k = ys.take k) (he : xs[k] = ys[k]) : xs.take (k + 1) = ys.take (k + 1) := by
  rw [List.take_succ_eq_append_getElem h1, List.take_succ_eq_append_getElem h2, h, he]
theorem ne_at {xs ys : List Blk} {k : Nat} (h1 : k < xs.length) (h2 : k < ys.length) (hn : xs[k] ≠ ys[k]) : xs ≠ ys := fun e => by
  subst e
  exact hn rfl
theorem toList_ne {a b : ByteArray} (h : a ≠ b) : (a.toList == b.toList) = false := by
  cases hh : (a.toList == b.toList) with
  | false => rfl
  | true =>
    have h1 := eq_of_beq hh
    rw [ByteArray.toList_eq, ByteArray.toList_eq] at h1
    exact absurd (ByteArray.ext (Array.toList_inj.1 h1)) h
theorem toList_self (a : ByteArray) : (a.toList == a.toList) = true := by simp
set_option maxRecDepth 100000 in
set_option maxHeartbeats 2000000 in
theorem rsame_any (w : World) (A B : Option Addr) (n m c d : Nat) (xs ys : List Blk) (hn : n = xs.length) (hm : m = ys.length) (hN : n ≤ 9223372036854775807) (hM : m ≤ 9223372036854775807) (hr : Rd w 0 w.heap.size A (blks xs)) (hs : Rd w 0 w.heap.size B (blks ys)) :
    Calls Tryz.prog 111 #[.slice A n c, .slice B m d] w fun e w' => e = .returned (.bool (decide (xs = ys))) ∧ Ext w w' := by
  have Hn := Lib.hid hn
  have Hm := Lib.hid hm
  have HR := Lib.hid hr
  have HS := Lib.hid hs
  by_cases hne : n = m
  · subst hne
    clear hn hm hr hs
    go_enter Tryz.func111, Tryz.ntmps111
    go_wp2_with fail
    go_loopw [5] (fun i wr => ∃ k : Nat, k ≤ n ∧ i = .int .i64 k ∧ Hid (xs.take k = ys.take k) ∧ Ext w wr) (fun i _ => n - (intOf i).toNat)
    case atStart => exact ⟨0, Nat.zero_le _, rfl, by rw [Hid]; rfl, Ext.refl _⟩
    case round =>
      obtain ⟨k, hk, rfl, HK, e1⟩ := hrel
      by_cases hlt : k < n
      · have l1 : k < xs.length := by rw [← Hn.out]; exact hlt
        have l2 : k < ys.length := by rw [← Hm.out]; exact hlt
        obtain ⟨b1, o1, rfl, _, _, f0, f1⟩ := rd_blk (HR.out.ext e1 (Nat.le_refl _)) l1
        obtain ⟨b2, o2, rfl, _, _, g0, g1⟩ := rd_blk (HS.out.ext e1 (Nat.le_refl _)) l2
        have HT := Lib.hid (take_eq_succ l1 l2 HK.out)
        have HN := Lib.hid (ne_at l1 l2)
        generalize xs[k] = x at *
        generalize ys[k] = y at *
        obtain ⟨xi, xd⟩ := x
        obtain ⟨yi, yd⟩ := y
        by_cases h1 : xi = yi
        · subst h1
          by_cases h2 : xd = yd
          · subst h2
            have c2 := toList_self xd
            have HT2 := Lib.hid (HT.out rfl)
            go_wp2_with fail
            refine wp_region_held_drew (S := fun w' => w' = wr.drew) (by kernel_rfl) rfl (fun hHeld => ?_)
            refine tW 0 9 ?_
            refine wpAnyH_done (by kernel_rfl) ?_ _
            go_wp2_with fail
            go_roundw
            case rel => exact ⟨k + 1, by omega, by go_num, HT2, blo⟩
            case measure => simp [intOf]; omega
          · have c2 := toList_ne h2
            have HF := Lib.hid (HN.out (by simp [h2]))
            clear h2
            go_wp2_with fail
            refine wp_region_held_drew (S := fun w' => w' = wr.drew) (by kernel_rfl) rfl (fun hHeld => ?_)
            refine tW 0 9 ?_
            refine wpAnyH_done (by kernel_rfl) ?_ _
            go_wp2_with fail
            go_ret
            exact ⟨by rw [decide_eq_false HF.out]; rfl, blo⟩
        · have c1 : (xi == yi) = false := by simp [h1]
          have HF := Lib.hid (HN.out (by simp [h1]))
          clear h1
          go_wp2_with fail
          refine wp_region_held_drew (S := fun w' => w' = wr.drew) (by kernel_rfl) rfl (fun hHeld => ?_)
          refine tW 0 9 ?_
          refine wpAnyH_done (by kernel_rfl) ?_ _
          go_wp2_with fail
          go_ret
          exact ⟨by rw [decide_eq_false HF.out]; rfl, blo⟩
      · obtain rfl : k = n := by omega
        have HE : Hid (xs = ys) := by
          have h := HK.out
          rw [List.take_of_length_le (by rw [← Hn.out]; exact Nat.le_refl _), List.take_of_length_le (by rw [← Hm.out]; exact Nat.le_refl _)] at h
          exact h
        go_wp2_with fail
        go_ret
        exact ⟨by rw [decide_eq_true HE.out]; rfl, e1⟩
  · have HF : Hid (xs ≠ ys) := fun e => hne (by rw [hn, hm, e])
    have hb : ((n : Int) != (m : Int)) = true := by simp; omega
    clear hn hm hr hs
    go_enter Tryz.func111, Tryz.ntmps111
    go_wp2_with fail
    go_ret
    exact ⟨by rw [decide_eq_false HF.out]; rfl, Ext.refl _⟩
open Go.RowKit
set_option linter.unusedVariables false
set_option linter.unusedSimpArgs false
instance : DecidableEq Prp := fun a b => decidable_of_iff (a.name = b.name ∧ a.value = b.value) (by cases a; cases b; simp)
theorem ptake_eq_succ {xs ys : List Prp} {k : Nat} (h1 : k < xs.length) (h2 : k < ys.length) (h : xs.take k = ys.take k) (he : xs[k] = ys[k]) : xs.take (k + 1) = ys.take (k + 1) := by
  rw [List.take_succ_eq_append_getElem h1, List.take_succ_eq_append_getElem h2, h, he]
theorem pne_at {xs ys : List Prp} {k : Nat} (h1 : k < xs.length) (h2 : k < ys.length) (hn : xs[k] ≠ ys[k]) : xs ≠ ys := fun e => by
  subst e
  exact hn rfl
set_option maxRecDepth 100000 in
set_option maxHeartbeats 2000000 in
theorem rpsame_any (w : World) (A B : Option Addr) (n m c d : Nat) (xs ys : List Prp) (hn : n = xs.length) (hm : m = ys.length) (hN : n ≤ 9223372036854775807) (hM : m ≤ 9223372036854775807) (hr : Rd w 0 w.heap.size A (prps xs)) (hs : Rd w 0 w.heap.size B (prps ys)) :
    Calls Tryz.prog 71 #[.slice A n c, .slice B m d] w fun e w' => e = .returned (.bool (decide (xs = ys))) ∧ Ext w w' := by
  have Hn := Lib.hid hn
  have Hm := Lib.hid hm
  have HR := Lib.hid hr
  have HS := Lib.hid hs
  by_cases hne : n = m
  · subst hne
    clear hn hm hr hs
    go_enter Tryz.func71, Tryz.ntmps71
    go_wp2_with fail
    go_loopw [5] (fun i wr => ∃ k : Nat, k ≤ n ∧ i = .int .i64 k ∧ Hid (xs.take k = ys.take k) ∧ Ext w wr) (fun i _ => n - (intOf i).toNat)
    case atStart => exact ⟨0, Nat.zero_le _, rfl, by rw [Hid]; rfl, Ext.refl _⟩
    case round =>
      obtain ⟨k, hk, rfl, HK, e1⟩ := hrel
      by_cases hlt : k < n
      · have l1 : k < xs.length := by rw [← Hn.out]; exact hlt
        have l2 : k < ys.length := by rw [← Hm.out]; exact hlt
        obtain ⟨b1, o1, rfl, _, _, f0, f1⟩ := rd_prp (HR.out.ext e1 (Nat.le_refl _)) l1
        obtain ⟨b2, o2, rfl, _, _, g0, g1⟩ := rd_prp (HS.out.ext e1 (Nat.le_refl _)) l2
        have HT := Lib.hid (ptake_eq_succ l1 l2 HK.out)
        have HN := Lib.hid (pne_at l1 l2)
        generalize xs[k] = x at *
        generalize ys[k] = y at *
        obtain ⟨xi, xd⟩ := x
        obtain ⟨yi, yd⟩ := y
        by_cases h1 : xi = yi
        · subst h1
          have c1 := toList_self xi
          by_cases h2 : xd = yd
          · subst h2
            have c2 := toList_self xd
            have HT2 := Lib.hid (HT.out rfl)
            go_wp2_with fail
            refine wp_region_held_drew (S := fun w' => w' = wr.drew) (by kernel_rfl) rfl (fun hHeld => ?_)
            refine tW 0 9 ?_
            refine wpAnyH_done (by kernel_rfl) ?_ _
            go_wp2_with fail
            go_roundw
            case rel => exact ⟨k + 1, by omega, by go_num, HT2, blo⟩
            case measure => simp [intOf]; omega
          · have c2 := toList_ne h2
            have HF := Lib.hid (HN.out (by simp [h2]))
            clear h2
            go_wp2_with fail
            refine wp_region_held_drew (S := fun w' => w' = wr.drew) (by kernel_rfl) rfl (fun hHeld => ?_)
            refine tW 0 9 ?_
            refine wpAnyH_done (by kernel_rfl) ?_ _
            go_wp2_with fail
            go_ret
            exact ⟨by rw [decide_eq_false HF.out]; rfl, blo⟩
        · have c1 := toList_ne h1
          have HF := Lib.hid (HN.out (by simp [h1]))
          clear h1
          go_wp2_with fail
          refine wp_region_held_drew (S := fun w' => w' = wr.drew) (by kernel_rfl) rfl (fun hHeld => ?_)
          refine tW 0 9 ?_
          refine wpAnyH_done (by kernel_rfl) ?_ _
          go_wp2_with fail
          go_ret
          exact ⟨by rw [decide_eq_false HF.out]; rfl, blo⟩
      · obtain rfl : k = n := by omega
        have HE : Hid (xs = ys) := by
          have h := HK.out
          rw [List.take_of_length_le (by rw [← Hn.out]; exact Nat.le_refl _), List.take_of_length_le (by rw [← Hm.out]; exact Nat.le_refl _)] at h
          exact h
        go_wp2_with fail
        go_ret
        exact ⟨by rw [decide_eq_true HE.out]; rfl, e1⟩
  · have HF : Hid (xs ≠ ys) := fun e => hne (by rw [hn, hm, e])
    have hb : ((n : Int) != (m : Int)) = true := by simp; omega
    clear hn hm hr hs
    go_enter Tryz.func71, Tryz.ntmps71
    go_wp2_with fail
    go_ret
    exact ⟨by rw [decide_eq_false HF.out]; rfl, Ext.refl _⟩
open Go.RowKit
set_option linter.unusedVariables false
set_option linter.unusedSimpArgs false
def sumEq (x y : Su) : Bool := x.a == y.a && (x.b == y.b && (x.c == y.c && x.d == y.d))
def sameR (x y : Rec) : Bool :=
  x.kind == y.kind && (x.name.toList == y.name.toList && (x.frm == y.frm && (x.guid == y.guid && (x.index == y.index && (x.count == y.count && (x.data.toList == y.data.toList && (sumEq (sumR x) (sumR y) && decide (x.own = y.own))))))))
structure Stg.rd (w : World) (x : Stg) : Prop where
  begR : Rd w 0 w.heap.size x.beg.oA (prps x.beg.own)
  begL : x.beg.on = x.beg.own.length
  begN : x.beg.on ≤ 100000000
  bodyN : x.bn = x.body.length
  bodyM : x.bn ≤ 200000000
  bodyR : Rd w 0 w.heap.size x.bA (blks x.body)
theorem Stg.ok.rd {w : World} {x : Stg} (h : x.ok w) : x.rd w := ⟨h.begR, h.beg.own, h.begN, h.bodyN, by have := h.bodyM; omega, h.bodyR⟩
theorem Stg.rd.ext {w w' : World} {x : Stg} (h : x.rd w) (e : Ext w w') : x.rd w' := ⟨Rd.at h.begR e (Nat.le_refl _), h.begL, h.begN, h.bodyN, h.bodyM, Rd.at h.bodyR e (Nat.le_refl _)⟩
def sameS (x y : Stg) : Bool :=
  x.into.toList == y.into.toList && (sameR x.beg y.beg && (decide (x.body = y.body) && (x.pos == y.pos && (x.next == y.next && (sumEq x.su y.su && x.done == y.done)))))
open Go.RowKit Go.Maps Go.Sort Go.Shelf
set_option linter.unusedVariables false
set_option linter.unusedSimpArgs false
def strc (s : ByteArray) : List Value := [.string s]
theorem strs_flat (l : List ByteArray) : l.flatMap strc = l.map Value.string := by
  induction l with
  | nil => rfl
  | cons b l ih => rw [List.flatMap_cons, ih]; rfl
def sml (s : ByteArray) : Prop := s.size ≤ 1048576
abbrev Txs := Sl ByteArray
abbrev Txs.At (w : World) (lo hi : Nat) (s : Txs) : Prop := Sl.At w lo hi strc sml s
def Blk.sm (x : Blk) : Prop := Blk.wf x
def Prp.sm (x : Prp) : Prop := sml x.name ∧ sml x.value
abbrev Bks.At (w : World) (lo hi : Nat) (s : Sl Blk) : Prop := Sl.At w lo hi Blk.cells Blk.sm s
abbrev Pps.At (w : World) (lo hi : Nat) (s : Sl Prp) : Prop := Sl.At w lo hi Prp.cells Prp.sm s
structure Sna where
  name : ByteArray
  guid : Int
  body : Sl Blk
  tags : Txs
  own : Sl Prp
def Sna.cells (x : Sna) : List Value := [.string x.name, .int .i64 x.guid, x.body.val, x.tags.val, x.own.val]
structure Sna.At (w : World) (lo hi : Nat) (x : Sna) : Prop where
  name : sml x.name
  guid : (Lit.int .i64 x.guid).wf = true
  body : Bks.At w lo hi x.body
  bodyS : x.body.n ≤ 1048576
  tags : Txs.At w lo hi x.tags
  own : Pps.At w lo hi x.own
  ownS : x.own.n ≤ 1048576
structure Dst where
  path : ByteArray
  origin : ByteArray
  body : Sl Blk
  snaps : Sl Sna
  own : Sl Prp
def Dst.cells (x : Dst) : List Value := [.string x.path, .string x.origin, x.body.val, x.snaps.val, x.own.val]
structure Dst.At (w : World) (lo hi : Nat) (x : Dst) : Prop where
  path : sml x.path
  origin : sml x.origin
  body : Bks.At w lo hi x.body
  bodyS : x.body.n ≤ 1048576
  snaps : Sl.At w lo hi Sna.cells (Sna.At w lo hi) x.snaps
  snapsS : x.snaps.n ≤ 1048576
  own : Pps.At w lo hi x.own
  ownS : x.own.n ≤ 1048576
structure Gra where
  user : ByteArray
  path : ByteArray
  perms : Int
def Gra.cells (x : Gra) : List Value := [.string x.user, .string x.path, .int .i64 x.perms]
def Gra.sm (x : Gra) : Prop := sml x.user ∧ sml x.path ∧ (Lit.int .i64 x.perms).wf = true
structure Lin where
  user : ByteArray
  kind : Int
  path : ByteArray
  err : Int
def Lin.cells (x : Lin) : List Value := [.string x.user, .int .i64 x.kind, .string x.path, .int .i64 x.err]
def Lin.sm (x : Lin) : Prop := sml x.user ∧ sml x.path ∧ (Lit.int .i64 x.kind).wf = true ∧ (Lit.int .i64 x.err).wf = true
structure Stg.At (w : World) (lo hi : Nat) (x : Stg) : Prop where
  begR : Rd w lo hi x.beg.oA (prps x.beg.own)
  beg : x.beg.wf
  begN : x.beg.on ≤ 1048576
  begS : (sumR x.beg).wf
  bodyN : x.bn = x.body.length
  bodyM : x.bn ≤ 1048576
  bodyC : x.bn ≤ x.bc ∧ x.bc ≤ maxLen
  bodyR : Rd w lo hi x.bA (blks x.body)
  bodyW : ∀ b ∈ x.body, b.wf
  into : sml x.into
  pos : (Lit.int .i64 x.pos).wf = true
  next : (Lit.int .i64 x.next).wf = true
  su : x.su.wf
structure Tnt where
  name : ByteArray
  quota : Int
  next : Int
  sets : Sl Dst
  grants : Sl Gra
  stages : Sl Stg
  log : Sl Lin
def Tnt.cells (x : Tnt) : List Value := [.string x.name, .int .i64 x.quota, .int .i64 x.next, x.sets.val, x.grants.val, x.stages.val, x.log.val]
structure Tnt.At (w : World) (lo hi : Nat) (x : Tnt) : Prop where
  name : sml x.name
  quota : (Lit.int .i64 x.quota).wf = true
  next : (Lit.int .i64 x.next).wf = true
  sets : Sl.At w lo hi Dst.cells (Dst.At w lo hi) x.sets
  grants : Sl.At w lo hi Gra.cells Gra.sm x.grants
  stages : Sl.At w lo hi Stg.cells (Stg.At w lo hi) x.stages
  log : Sl.At w lo hi Lin.cells Lin.sm x.log
section
variable {w w' : World} {lo hi lo' hi' : Nat}
theorem Sna.At.imp {x : Sna} (h : Sna.At w lo hi x) (hr : ∀ A cs, Rd w lo hi A cs → Rd w' lo' hi' A cs) : Sna.At w' lo' hi' x := ⟨h.name, h.guid, Sl.At.imp h.body (hr _ _) (fun _ h => h), h.bodyS, Sl.At.imp h.tags (hr _ _) (fun _ h => h), Sl.At.imp h.own (hr _ _) (fun _ h => h), h.ownS⟩
theorem Dst.At.imp {x : Dst} (h : Dst.At w lo hi x) (hr : ∀ A cs, Rd w lo hi A cs → Rd w' lo' hi' A cs) : Dst.At w' lo' hi' x := ⟨h.path, h.origin, Sl.At.imp h.body (hr _ _) (fun _ h => h), h.bodyS, Sl.At.imp h.snaps (hr _ _) (fun _ hx => Sna.At.imp hx hr), h.snapsS, Sl.At.imp h.own (hr _ _) (fun _ h => h), h.ownS⟩
theorem Stg.At.imp {x : Stg} (h : Stg.At w lo hi x) (hr : ∀ A cs, Rd w lo hi A cs → Rd w' lo' hi' A cs) : Stg.At w' lo' hi' x := ⟨hr _ _ h.begR, h.beg, h.begN, h.begS, h.bodyN, h.bodyM, h.bodyC, hr _ _ h.bodyR, h.bodyW, h.into, h.pos, h.next, h.su⟩
theorem Tnt.At.imp {x : Tnt} (h : Tnt.At w lo hi x) (hr : ∀ A cs, Rd w lo hi A cs → Rd w' lo' hi' A cs) : Tnt.At w' lo' hi' x := ⟨h.name, h.quota, h.next, Sl.At.imp h.sets (hr _ _) (fun _ hx => Dst.At.imp hx hr), Sl.At.imp h.grants (hr _ _) (fun _ h => h), Sl.At.imp h.stages (hr _ _) (fun _ hx => Stg.At.imp hx hr), Sl.At.imp h.log (hr _ _) (fun _ h => h)⟩
theorem Sna.At.on {x : Sna} (h : Sna.At w lo hi x) (e : Ext w w') (hh : hi ≤ w.heap.size) : Sna.At w' lo w'.heap.size x := h.imp (rd_on e hh)
theorem Dst.At.on {x : Dst} (h : Dst.At w lo hi x) (e : Ext w w') (hh : hi ≤ w.heap.size) : Dst.At w' lo w'.heap.size x := h.imp (rd_on e hh)
theorem Stg.At.on {x : Stg} (h : Stg.At w lo hi x) (e : Ext w w') (hh : hi ≤ w.heap.size) : Stg.At w' lo w'.heap.size x := h.imp (rd_on e hh)
theorem Tnt.At.on {x : Tnt} (h : Tnt.At w lo hi x) (e : Ext w w') (hh : hi ≤ w.heap.size) : Tnt.At w' lo w'.heap.size x := h.imp (rd_on e hh)
theorem sl_on {α : Type} {cells : α → List Value} {I I' : α → Prop} {s : Sl α} (h : Sl.At w lo hi cells I s) (e : Ext w w') (hh : hi ≤ w.heap.size) (hi : ∀ x, I x → I' x) : Sl.At w' lo w'.heap.size cells I' s := Sl.At.imp h (rd_on e hh _ _) hi
end
def findI {α : Type} (p : α → Bool) : List α → Int
  | [] => -1
  | x :: l => if p x = true then 0 else if findI p l < 0 then -1 else findI p l + 1
theorem findI_ge {α : Type} (p : α → Bool) : ∀ l : List α, -1 ≤ findI p l ∧ findI p l < (l.length : Int)
  | [] => by simp [findI]
  | x :: l => by
    have := findI_ge p l
    rw [findI, List.length_cons]
    split
    · omega
    · split <;> omega
theorem findI_at {α : Type} (p : α → Bool) : ∀ (l : List α) (k : Nat) (h : k < l.length), (∀ x ∈ l.take k, p x = false) → p l[k] = true → findI p l = (k : Int)
  | x :: l, 0, _, _, hp => by rw [findI, if_pos (by simpa using hp)]; rfl
  | x :: l, k + 1, h, hk, hp => by
    have h1 : p x = false := hk x (by simp)
    have ih := findI_at p l k (by simpa using h) (fun y hy => hk y (by simp [hy])) (by simpa using hp)
    rw [findI, if_neg (by rw [h1]; decide), if_neg (by omega), ih]
    omega
theorem findI_none {α : Type} (p : α → Bool) : ∀ l : List α, (∀ x ∈ l, p x = false) → findI p l = -1
  | [], _ => rfl
  | x :: l, h => by
    have h1 : p x = false := h x (by simp)
    have ih := findI_none p l (fun y hy => h y (by simp [hy]))
    rw [findI, if_neg (by rw [h1]; decide), ih]; rfl
theorem findI_spec {α : Type} (p : α → Bool) : ∀ l : List α, 0 ≤ findI p l → ∃ h : (findI p l).toNat < l.length, p (l[(findI p l).toNat]) = true
  | [], h => absurd h (by show ¬ (0 : Int) ≤ -1; decide)
  | x :: l, h => by
    rw [findI] at h
    by_cases hp : p x = true
    · have e : findI p (x :: l) = 0 := by rw [findI, if_pos hp]
      rw [e]
      exact ⟨by simp, by simpa using hp⟩
    · rw [if_neg hp] at h
      by_cases h0 : findI p l < 0
      · rw [if_pos h0] at h; omega
      · obtain ⟨h1, h2⟩ := findI_spec p l (by omega)
        have e : findI p (x :: l) = findI p l + 1 := by rw [findI, if_neg hp, if_neg h0]
        rw [e]
        have e2 : (findI p l + 1).toNat = (findI p l).toNat + 1 := by omega
        rw [e2]
        exact ⟨by simpa using h1, by simpa using h2⟩
open Go.RowKit Go.Maps Go.Sort Go.Shelf
set_option linter.unusedVariables false
set_option linter.unusedSimpArgs false
def amtB (n least : Int) : Bool := decide (least ≤ n) && decide (n ≤ 1099511627776)
def parO (s : ByteArray) : Option ByteArray := if s.size = 0 then none else if pathB s = true then some (s.extract 0 (max (Go.Lib.lastIndexByte s 47) 0).toNat) else none
def atI (s : ByteArray) : Int := Go.Lib.index s.data.toList [64]
def splP (s : ByteArray) : ByteArray := s.extract 0 (atI s).toNat
def splN (s : ByteArray) : ByteArray := s.extract ((atI s).toNat + 1) s.size
def splB (s : ByteArray) : Bool := decide (0 ≤ atI s) && (pathB (splP s) && nameB (splN s))
def risS (l : List ByteArray) : Bool := (List.range (l.length - 1)).all fun k => lessB (l.getD k .empty) (l.getD (k + 1) .empty)
def risN (l : List Int) : Bool := (List.range (l.length - 1)).all fun k => decide (l.getD k 0 < l.getD (k + 1) 0)
def hasS (l : List ByteArray) (x : ByteArray) : Bool := l.any fun y => decide (y = x)
theorem hasS_iff (l : List ByteArray) (x : ByteArray) : hasS l x = true ↔ x ∈ l := by
  rw [hasS, List.any_eq_true]
  constructor
  · rintro ⟨y, hy, e⟩
    rw [decide_eq_true_eq] at e
    exact e ▸ hy
  · intro h
    exact ⟨x, h, decide_eq_true rfl⟩
def unlB (l : List ByteArray) : Bool := (List.range l.length).all fun k => nameB (l.getD k .empty) && !hasS (l.take k) (l.getD k .empty)
def tagB (l : List ByteArray) : Bool := decide (l.length ≤ 4) && (l.all nameB && risS l)
def snB (x : Sna) : Bool := amtB x.guid 1 && (decide (bkE x.body.xs = 0) && (decide (prE x.own.xs = 0) && tagB x.tags.xs))
def snsB (l : List Sna) : Bool := decide (l.length ≤ 16) && (l.all snB && (risN (l.map Sna.guid) && unlB (l.map Sna.name)))
def atS (sets : List Dst) (p : ByteArray) : Int := findI (fun x : Dst => decide (x.path = p)) sets
def snO (sets : List Dst) (p n : ByteArray) : Int := findI (fun x : Sna => decide (x.name = n)) ((sets.map fun x => x.snaps.xs).getD (atS sets p).toNat [])
def orB (sets : List Dst) (x : Dst) : Bool := decide (x.origin.size = 0) || (splB x.origin && (decide (splP x.origin ≠ x.path) && (decide (0 ≤ atS sets (splP x.origin)) && decide (0 ≤ snO sets (splP x.origin) (splN x.origin)))))
def upB (sets : List Dst) (x : Dst) : Bool := match parO x.path with
  | none => true
  | some up => decide (0 ≤ atS sets up)
def seB (sets : List Dst) (x : Dst) : Bool := pathB x.path && (upB sets x && (decide (prE x.own.xs = 0) && (decide (bkE x.body.xs = 0) && (snsB x.snaps.xs && orB sets x))))
def setsB (sets : List Dst) : Bool := decide (sets.length ≤ 32) && (decide (0 ≤ atS sets .empty) && (sets.all (seB sets) && risS (sets.map Dst.path)))
def ltG (x y : Gra) : Bool := lessB x.user y.user || (decide (x.user = y.user) && lessB x.path y.path)
def grB1 (x : Gra) : Bool := nameB x.user && (pathB x.path && (decide (1 ≤ x.perms) && decide (x.perms ≤ 255)))
def zG : Gra := ⟨.empty, .empty, 0⟩
def grB (l : List Gra) : Bool := decide (l.length ≤ 16) && (l.all grB1 && (List.range (l.length - 1)).all fun k => ltG (l.getD k zG) (l.getD (k + 1) zG))
def stsB (l : List Stg) : Bool := decide (l.length ≤ 4) && (l.all stB && risS (l.map Stg.into))
def liB (x : Lin) : Bool := (decide (x.user.size = 0) || nameB x.user) && (pathB x.path && (amtB x.kind 0 && amtB x.err 0))
def tenB (t : Tnt) : Bool := nameB t.name && (amtB t.quota 0 && (amtB t.next 1 && (setsB t.sets.xs && (grB t.grants.xs && (stsB t.stages.xs && (decide (t.log.xs.length ≤ 16) && t.log.xs.all liB))))))
def tenE (t : Tnt) : Int := if tenB t = true then 0 else 9
theorem all_no {α : Type} (p : α → Bool) (l : List α) (k : Nat) (h : k < l.length) (hp : p l[k] = false) : l.all p = false := by
  rw [List.all_eq_false]
  exact ⟨l[k], List.getElem_mem h, by rw [hp]; decide⟩
theorem risS_no (l : List ByteArray) (k : Nat) (h : k + 1 < l.length) (hp : lessB l[k] l[k + 1] = false) : risS l = false := by
  rw [risS, List.all_eq_false]
  refine ⟨k, List.mem_range.2 (by omega), ?_⟩
  simp [List.getD, List.getElem?_eq_getElem h, List.getElem?_eq_getElem (show k < l.length by omega), hp]
theorem risS_yes (l : List ByteArray) (hp : ∀ k (h : k + 1 < l.length), lessB l[k] l[k + 1] = true) : risS l = true := by
  rw [risS, List.all_eq_true]
  intro k hk
  have hk := List.mem_range.1 hk
  simp [List.getD, List.getElem?_eq_getElem (show k + 1 < l.length by omega), List.getElem?_eq_getElem (show k < l.length by omega), hp k (by omega)]
theorem risN_no (l : List Int) (k : Nat) (h : k + 1 < l.length) (hp : ¬ l[k] < l[k + 1]) : risN l = false := by
  rw [risN, List.all_eq_false]
  refine ⟨k, List.mem_range.2 (by omega), ?_⟩
  simp [List.getD, List.getElem?_eq_getElem h, List.getElem?_eq_getElem (show k < l.length by omega)]
  omega
theorem risN_yes (l : List Int) (hp : ∀ k (h : k + 1 < l.length), l[k] < l[k + 1]) : risN l = true := by
  rw [risN, List.all_eq_true]
  intro k hk
  have hk := List.mem_range.1 hk
  simp [List.getD, List.getElem?_eq_getElem (show k + 1 < l.length by omega), List.getElem?_eq_getElem (show k < l.length by omega), hp k (by omega)]
open Go.RowKit Go.Maps Go.Sort Go.Shelf
set_option linter.unusedVariables false
set_option linter.unusedSimpArgs false
theorem int_wf {y : Int} (h : (Lit.int .i64 y).wf = true) : -9223372036854775808 ≤ y ∧ y ≤ 9223372036854775807 := by
  simp only [Lit.wf, Bool.and_eq_true, decide_eq_true_eq] at h
  exact ⟨h.1, h.2⟩
open Go.RowKit Go.Maps Go.Sort Go.Shelf
set_option linter.unusedVariables false
set_option linter.unusedSimpArgs false
def blkO (xs : List Blk) : List UInt8 := xs.flatMap fun x => puts x.index 2 ++ x.data.data.toList
def strO (l : List UInt8) : ByteArray := ⟨l.toArray⟩
theorem strO_size (l : List UInt8) : (strO l).size = l.length := List.size_toArray
def ownT (l : List Prp) : List ByteArray := num8 (l.length : Int) :: ptext l
def graT (x : Gra) : List ByteArray := [x.user, x.path, num8 x.perms]
def linT (x : Lin) : List ByteArray := [x.user, num8 x.kind, x.path, num8 x.err]
def headT (t : Tnt) : List ByteArray := num8 t.quota :: num8 t.next :: num8 (t.grants.xs.length : Int) :: (t.grants.xs.flatMap graT ++ (num8 (t.log.xs.length : Int) :: t.log.xs.flatMap linT))
def snaT (x : Sna) : List ByteArray := x.name :: num8 x.guid :: (ownT x.own.xs ++ (num8 (x.tags.xs.length : Int) :: (x.tags.xs ++ [strO (blkO x.body.xs)])))
def dstT (x : Dst) : List ByteArray := x.origin :: (ownT x.own.xs ++ (strO (blkO x.body.xs) :: num8 (x.snaps.xs.length : Int) :: x.snaps.xs.flatMap snaT))
def stgT (x : Stg) : List ByteArray := [strO (encB x.beg), strO (blkO x.body), num8 x.pos, num8 x.next, strO (sumO x.su), num8 (if x.done = true then 1 else 0)]
def keyO (l : List ByteArray) : ByteArray := ⟨(Go.Lib.join (l.map (·.data.toList)) [47]).toArray⟩
def kT : ByteArray := ⟨#[116]⟩
def kS : ByteArray := ⟨#[115]⟩
def kG : ByteArray := ⟨#[103]⟩
def objT (t : Tnt) : List (ByteArray × List ByteArray) :=
  (keyO [kT, t.name], headT t) :: (t.sets.xs.map (fun s => (keyO [kS, t.name, s.path], dstT s)) ++ t.stages.xs.map (fun s => (keyO [kG, t.name, s.into], stgT s)))
def tln (l : List ByteArray) : Nat := (l.map fun s => 3 + s.size).sum
theorem tln_nil : tln [] = 0 := rfl
theorem tln_cons (s : ByteArray) (l : List ByteArray) : tln (s :: l) = 3 + s.size + tln l := by simp [tln]
theorem tln_app (l m : List ByteArray) : tln (l ++ m) = tln l + tln m := by simp [tln]
theorem tln_flat {α : Type} (f : α → List ByteArray) (l : List α) (m : Nat) (h : ∀ x ∈ l, tln (f x) ≤ m) : tln (l.flatMap f) ≤ l.length * m := by
  induction l with
  | nil => simp [tln]
  | cons x l ih =>
    rw [List.flatMap_cons, tln_app, List.length_cons, Nat.add_mul]
    have h1 := h x (by simp)
    have h2 := ih fun y hy => h y (by simp [hy])
    omega
theorem tln_flat2 {α : Type} (f : α → List ByteArray) (g : α → Nat) (l : List α) (h : ∀ x ∈ l, tln (f x) ≤ g x) : tln (l.flatMap f) ≤ (l.map g).sum := by
  induction l with
  | nil => simp [tln]
  | cons x l ih =>
    rw [List.flatMap_cons, tln_app, List.map_cons, List.sum_cons]
    have h1 := h x (by simp)
    have h2 := ih fun y hy => h y (by simp [hy])
    omega
theorem flat_tln (l : List ByteArray) : (flat l).length = 2 + tln l := by
  unfold flat
  rw [List.length_append, puts_length]
  congr 1
  induction l with
  | nil => rfl
  | cons s l ih =>
    rw [List.flatMap_cons, List.length_append, ih, tln_cons]
    congr 1
    show (puts s.size 3 ++ s.data.toList).length = _
    rw [List.length_append, puts_length]
    congr 1
theorem len_flat {α : Type} (f : α → List ByteArray) (l : List α) (m : Nat) (h : ∀ x ∈ l, (f x).length ≤ m) : (l.flatMap f).length ≤ l.length * m := by
  induction l with
  | nil => simp
  | cons x l ih =>
    rw [List.flatMap_cons, List.length_append, List.length_cons, Nat.add_mul]
    have h1 := h x (by simp)
    have h2 := ih fun y hy => h y (by simp [hy])
    omega
theorem num8_sz (z : Int) : (num8 z).size = 8 := num8_size z
theorem name_size {s : ByteArray} (h : nameB s = true) : s.size ≤ 16 := by
  simp only [nameB, Bool.and_eq_true, decide_eq_true_eq] at h
  exact h.1.2
theorem parts_size (s : List UInt8) : ∀ cur, ((partsGo cur s).map List.length).sum + (partsGo cur s).length = cur.length + s.length + 1 := by
  induction s with
  | nil => intro cur; simp [partsGo]
  | cons b s ih =>
    intro cur
    rw [partsGo]
    by_cases h : b = 47
    · rw [if_pos h, List.map_cons, List.sum_cons, List.length_cons]
      have := ih []
      simp only [List.length_nil, List.length_cons] at *
      omega
    · rw [if_neg h]
      have := ih (cur ++ [b])
      simp only [List.length_append, List.length_cons, List.length_nil] at *
      omega
theorem sum_le_mul (l : List Nat) (m : Nat) (h : ∀ x ∈ l, x ≤ m) : l.sum ≤ l.length * m := by
  induction l with
  | nil => simp
  | cons x l ih =>
    rw [List.sum_cons, List.length_cons, Nat.add_mul]
    have h1 := h x (by simp)
    have h2 := ih fun y hy => h y (by simp [hy])
    omega
theorem path_size {s : ByteArray} (h : pathB s = true) : s.size ≤ 67 := by
  simp only [pathB, Bool.or_eq_true, Bool.and_eq_true, decide_eq_true_eq, List.all_eq_true] at h
  rcases h with h | ⟨h1, h2⟩
  · omega
  · have h3 := parts_size s.data.toList []
    have h4 := sum_le_mul ((parts s.data.toList).map List.length) 16 fun x hx => by
      obtain ⟨p, hp, rfl⟩ := List.mem_map.1 hx
      have := name_size (h2 p hp)
      have h5 : (⟨p.toArray⟩ : ByteArray).size = p.length := List.size_toArray
      omega
    rw [List.length_map] at h4
    have h6 : s.data.toList.length = s.size := Array.length_toList
    simp only [List.length_nil] at h3
    have h7 : parts s.data.toList = partsGo [] s.data.toList := rfl
    rw [h7] at h1 h4
    have h8 : (partsGo [] s.data.toList).length * 16 ≤ 64 := by omega
    have h9 : (partsGo [] s.data.toList).length ≥ 1 := by
      rw [partsGo_len]; omega
    omega
theorem bk_small (xs : List Blk) (h : bkE xs = 0) : xs.length ≤ 1024 ∧ ∀ x ∈ xs, x.data.size = 16 := by
  have hb : bkUpto xs xs.length = false := by
    rw [bkE] at h
    cases hq : bkUpto xs xs.length with
    | false => rfl
    | true => rw [hq] at h; cases h
  have hk : ∀ k, k < xs.length → bkBad xs k = false := fun k hk => by
    cases hq : bkBad xs k with
    | false => rfl
    | true => rw [bkUpto_at xs k _ hk hq] at hb; cases hb
  have hone : ∀ k (h : k < xs.length), 0 ≤ xs[k].index ∧ xs[k].index < 1024 ∧ xs[k].data.size = 16 := fun k h => by
    have := hk k h
    rw [bkBad_at xs k h, Bool.or_eq_false_iff] at this
    have := this.1
    simp only [badOne, Bool.or_eq_false_iff, decide_eq_false_iff_not, Decidable.not_not] at this
    omega
  have hr : ∀ k (h : k < xs.length), (k : Int) ≤ xs[k].index := by
    intro k
    induction k with
    | zero => intro h; exact (hone 0 h).1
    | succ k ih =>
      intro h
      have h1 := ih (by omega)
      have h2 := hk (k + 1) h
      rw [bkBad_at xs (k + 1) h, Bool.or_eq_false_iff] at h2
      have h3 := h2.2
      have e : k + 1 - 1 = k := by omega
      rw [e, ixAt_at xs k (by omega)] at h3
      simp only [Bool.and_eq_false_iff, decide_eq_false_iff_not] at h3
      omega
  constructor
  · by_cases h0 : xs.length = 0
    · omega
    · have h1 := hr (xs.length - 1) (by omega)
      have h2 := (hone (xs.length - 1) (by omega)).2.1
      omega
  · intro x hx
    obtain ⟨k, hk, rfl⟩ := List.getElem_of_mem hx
    exact (hone k hk).2.2
theorem blkO_len (xs : List Blk) (h : ∀ x ∈ xs, x.data.size = 16) : (blkO xs).length = xs.length * 18 := by
  induction xs with
  | nil => rfl
  | cons x xs ih =>
    have h1 := ih fun y hy => h y (by simp [hy])
    have h2 := h x (by simp)
    have h3 : x.data.data.toList.length = x.data.size := Array.length_toList
    rw [blkO] at h1 ⊢
    rw [List.flatMap_cons, List.length_append, h1, List.length_append, puts_length, List.length_cons]
    omega
theorem own_small (l : List Prp) (h : prE l = 0) : (ownT l).length ≤ 17 ∧ tln (ownT l) ≤ 443 ∧ ∀ s ∈ ownT l, s.size ≤ 32 := by
  obtain ⟨h1, h2⟩ := pr_small l h
  refine ⟨?_, ?_, ?_⟩
  · rw [ownT, List.length_cons, ptext_length]; omega
  · rw [ownT, tln_cons, num8_sz, ptext]
    have := tln_flat (fun x : Prp => [x.name, x.value]) l 54 fun x hx => by
      have := h2 x hx
      rw [tln_cons, tln_cons, tln_nil]; omega
    omega
  · intro s hs
    rw [ownT, List.mem_cons] at hs
    rcases hs with rfl | hs
    · rw [num8_sz]; omega
    · obtain ⟨x, hx, hs⟩ := List.mem_flatMap.1 hs
      have := h2 x hx
      simp only [List.mem_cons, List.not_mem_nil, or_false] at hs
      rcases hs with rfl | rfl <;> omega
theorem unl_name {l : List ByteArray} (h : unlB l = true) : ∀ s ∈ l, nameB s = true := by
  intro s hs
  obtain ⟨k, hk, rfl⟩ := List.getElem_of_mem hs
  rw [unlB, List.all_eq_true] at h
  have := h k (List.mem_range.2 hk)
  simp only [Bool.and_eq_true] at this
  have h1 := this.1
  simpa [List.getD, List.getElem?_eq_getElem hk] using h1
theorem sna_small (x : Sna) (h : snB x = true) (hn : nameB x.name = true) : (snaT x).length ≤ 25 ∧ tln (snaT x) ≤ 563 + 18 * x.body.xs.length ∧ ∀ s ∈ snaT x, s.size ≤ 18432 := by
  simp only [snB, tagB, Bool.and_eq_true, decide_eq_true_eq, List.all_eq_true] at h
  obtain ⟨_, h1, h2, h3, h4, _⟩ := h
  obtain ⟨b1, b2⟩ := bk_small _ h1
  have b3 := blkO_len _ b2
  obtain ⟨o1, o2, o3⟩ := own_small _ h2
  have hn := name_size hn
  have ht : tln x.tags.xs ≤ 76 := by
    have := sum_le_mul (x.tags.xs.map fun s => 3 + s.size) 19 fun y hy => by
      obtain ⟨s, hs, rfl⟩ := List.mem_map.1 hy
      have := name_size (h4 s hs)
      omega
    rw [List.length_map] at this
    rw [tln]; omega
  refine ⟨?_, ?_, ?_⟩
  · simp only [snaT, List.length_cons, List.length_append, List.length_nil]; omega
  · simp only [snaT, tln_cons, tln_app, tln_nil, num8_sz, strO_size]; omega
  · intro s hs
    simp only [snaT, List.mem_cons, List.mem_append, List.not_mem_nil, or_false] at hs
    rcases hs with rfl | rfl | hs | rfl | hs | rfl
    · omega
    · rw [num8_sz]; omega
    · have := o3 s hs; omega
    · rw [num8_sz]; omega
    · have := name_size (h4 s hs); omega
    · rw [strO_size]; omega
theorem origin_size (sets : List Dst) (x : Dst) (h : orB sets x = true) : x.origin.size ≤ 84 := by
  simp only [orB, splB, Bool.or_eq_true, Bool.and_eq_true, decide_eq_true_eq] at h
  rcases h with h | h
  · omega
  · have h1 := path_size h.1.2.1
    have h2 := name_size h.1.2.2
    rw [splP, ByteArray.size_extract] at h1
    rw [splN, ByteArray.size_extract] at h2
    omega
theorem sns_small (l : List Sna) (h : snsB l = true) : l.length ≤ 16 ∧ ∀ x ∈ l, (snaT x).length ≤ 25 ∧ tln (snaT x) ≤ 563 + 18 * x.body.xs.length ∧ ∀ s ∈ snaT x, s.size ≤ 18432 := by
  simp only [snsB, Bool.and_eq_true, decide_eq_true_eq, List.all_eq_true] at h
  refine ⟨h.1, fun x hx => sna_small x (h.2.1 x hx) (unl_name h.2.2.2 _ (List.mem_map.2 ⟨x, hx, rfl⟩))⟩
def chS (x : Dst) : Nat := 1 + x.body.xs.length + (x.snaps.xs.map fun y : Sna => 1 + y.body.xs.length).sum
def chG (x : Stg) : Nat := 1 + x.body.length
theorem sum_lin (l : List Sna) : (l.map fun y : Sna => 563 + 18 * y.body.xs.length).sum ≤ 563 * (l.map fun y : Sna => 1 + y.body.xs.length).sum := by
  induction l with
  | nil => simp
  | cons x l ih => simp only [List.map_cons, List.sum_cons]; omega
theorem dst_small (sets : List Dst) (x : Dst) (h : seB sets x = true) : (dstT x).length ≤ 420 ∧ tln (dstT x) ≤ 563 * chS x ∧ (∀ s ∈ dstT x, s.size ≤ 18432) ∧ x.path.size ≤ 67 := by
  simp only [seB, Bool.and_eq_true, decide_eq_true_eq] at h
  obtain ⟨hp, _, ho, hb, hs, hr⟩ := h
  obtain ⟨b1, b2⟩ := bk_small _ hb
  have b3 := blkO_len _ b2
  obtain ⟨o1, o2, o3⟩ := own_small _ ho
  have hr := origin_size sets x hr
  obtain ⟨s1, s2⟩ := sns_small _ hs
  have s3 := len_flat snaT x.snaps.xs 25 fun y hy => (s2 y hy).1
  have s4 := tln_flat2 snaT (fun y => 563 + 18 * y.body.xs.length) x.snaps.xs fun y hy => (s2 y hy).2.1
  have s5 := sum_lin x.snaps.xs
  refine ⟨?_, ?_, ?_, path_size hp⟩
  · simp only [dstT, List.length_cons, List.length_append]; omega
  · simp only [dstT, tln_cons, tln_app, num8_sz, strO_size, chS]; omega
  · intro s hs
    simp only [dstT, List.mem_cons, List.mem_append, List.mem_flatMap] at hs
    rcases hs with rfl | hs | rfl | rfl | ⟨y, hy, hs⟩
    · omega
    · have := o3 s hs; omega
    · rw [strO_size]; omega
    · rw [num8_sz]; omega
    · exact (s2 y hy).2.2 s hs
theorem tln_wB (l : List ByteArray) : (wB l).length ≤ 2 + tln l := by
  rw [wB]
  split
  · rw [flat_tln]; exact Nat.le_refl _
  · simp
theorem enc_small (x : Rec) (hk : x.kind = 1) (h : recE x = 0) : (encB x).length ≤ 478 := by
  rw [encB, if_pos h]
  have h1 := tln_wB (recTexts x)
  have hm : mayB x = true := by
    unfold recE at h
    rw [if_neg (by omega)] at h
    cases hq : mayB x with
    | true => rfl
    | false => rw [hq] at h; cases h
  have h2 : tln (recTexts x) ≤ 473 := by
    have h3 : nameB x.name = true ∧ prE x.own = 0 := by
      rw [mayB] at hm
      simp [hk, and_assoc] at hm
      exact ⟨hm.1, hm.2.2.2.2.2.1⟩
    have h4 := name_size h3.1
    obtain ⟨h5, h6⟩ := pr_small _ h3.2
    rw [recTexts, if_pos hk, tln_app, tln_cons, tln_cons, tln_cons, tln_nil, num8_sz, num8_sz, ptext]
    have := tln_flat (fun x : Prp => [x.name, x.value]) x.own 54 fun y hy => by
      have := h6 y hy
      rw [tln_cons, tln_cons, tln_nil]; omega
    omega
  simp only [List.length_append, List.length_cons, List.length_nil, puts_length]
  omega
theorem stg_small (x : Stg) (h : stB x = true) : (stgT x).length ≤ 6 ∧ tln (stgT x) ≤ 563 * chG x ∧ (∀ s ∈ stgT x, s.size ≤ 18432) ∧ x.into.size ≤ 67 := by
  simp only [stB, Bool.and_eq_true, decide_eq_true_eq, beq_iff_eq] at h
  obtain ⟨_, hp, hk, hr, hb, _⟩ := h
  obtain ⟨b1, b2⟩ := bk_small _ hb
  have b3 := blkO_len _ b2
  have e1 := enc_small _ hk hr
  have s1 := sumO_length x.su
  refine ⟨by simp [stgT], ?_, ?_, path_size hp⟩
  · simp only [stgT, tln_cons, tln_nil, num8_sz, strO_size, chG]; omega
  · intro s hs
    simp only [stgT, List.mem_cons, List.not_mem_nil, or_false] at hs
    rcases hs with rfl | rfl | rfl | rfl | rfl | rfl <;> simp only [num8_sz, strO_size] <;> omega
theorem head_small (t : Tnt) (hg : grB t.grants.xs = true) (hl : t.log.xs.length ≤ 16) (hl2 : t.log.xs.all liB = true) : (headT t).length ≤ 116 ∧ tln (headT t) ≤ 3420 ∧ ∀ s ∈ headT t, s.size ≤ 18432 := by
  simp only [grB, Bool.and_eq_true, decide_eq_true_eq, List.all_eq_true] at hg
  obtain ⟨g1, g2, _⟩ := hg
  have g3 : ∀ x ∈ t.grants.xs, x.user.size ≤ 16 ∧ x.path.size ≤ 67 := fun x hx => by
    have := g2 x hx
    simp only [grB1, Bool.and_eq_true] at this
    exact ⟨name_size this.1, path_size this.2.1⟩
  have l3 : ∀ x ∈ t.log.xs, x.user.size ≤ 16 ∧ x.path.size ≤ 67 := fun x hx => by
    have := List.all_eq_true.1 hl2 x hx
    simp only [liB, Bool.and_eq_true, Bool.or_eq_true, decide_eq_true_eq] at this
    refine ⟨?_, path_size this.2.1⟩
    rcases this.1 with h | h
    · omega
    · exact name_size h
  have g4 := tln_flat graT t.grants.xs 100 fun x hx => by
    have := g3 x hx
    simp only [graT, tln_cons, tln_nil, num8_sz]; omega
  have l4 := tln_flat linT t.log.xs 111 fun x hx => by
    have := l3 x hx
    simp only [linT, tln_cons, tln_nil, num8_sz]; omega
  have g5 := len_flat graT t.grants.xs 3 fun x hx => by simp [graT]
  have l5 := len_flat linT t.log.xs 4 fun x hx => by simp [linT]
  refine ⟨?_, ?_, ?_⟩
  · simp only [headT, List.length_cons, List.length_append]; omega
  · simp only [headT, tln_cons, tln_app, num8_sz]; omega
  · intro s hs
    simp only [headT, List.mem_cons, List.mem_append, List.mem_flatMap] at hs
    rcases hs with rfl | rfl | rfl | ⟨x, hx, hs⟩ | rfl | ⟨x, hx, hs⟩
    · rw [num8_sz]; omega
    · rw [num8_sz]; omega
    · rw [num8_sz]; omega
    · have := g3 x hx
      simp only [graT, List.mem_cons, List.not_mem_nil, or_false] at hs
      rcases hs with rfl | rfl | rfl <;> (try rw [num8_sz]) <;> omega
    · rw [num8_sz]; omega
    · have := l3 x hx
      simp only [linT, List.mem_cons, List.not_mem_nil, or_false] at hs
      rcases hs with rfl | rfl | rfl | rfl <;> (try rw [num8_sz]) <;> omega
theorem wE_small {l : List ByteArray} (h1 : l.length ≤ 1024) (h2 : ∀ s ∈ l, s.size ≤ 18432) : wE l = 0 := by
  rw [wE, if_neg (by omega), if_neg]
  intro hq
  obtain ⟨s, hs, hl⟩ := List.any_eq_true.1 hq
  have := h2 s hs
  simp only [longB, decide_eq_true_eq] at hl
  omega
theorem join_len (l : List (List UInt8)) : (Go.Lib.join l [47]).length ≤ (l.map fun x => x.length + 1).sum := by
  induction l with
  | nil => simp [Go.Lib.join]
  | cons a l ih =>
    cases l with
    | nil => simp [Go.Lib.join]
    | cons b l =>
      have e : Go.Lib.join (a :: b :: l) [47] = a ++ ([47] ++ Go.Lib.join (b :: l) [47]) := by
        simp [Go.Lib.join, List.intercalate, List.intersperse]
      rw [e, List.map_cons, List.sum_cons, List.length_append, List.length_append]
      simp only [List.length_cons, List.length_nil] at ih ⊢
      omega
theorem key_size (l : List ByteArray) : (keyO l).size ≤ (l.map fun x => x.size + 1).sum := by
  have h := join_len (l.map (·.data.toList))
  have e : (keyO l).size = (Go.Lib.join (l.map (·.data.toList)) [47]).length := List.size_toArray
  rw [e]
  rw [List.map_map] at h
  exact h
def dat (x : ByteArray × List ByteArray) : ByteArray × Nat := (x.1, (wB x.2).length)
theorem obj_fit (t : Tnt) (h : tenB t = true) : ∀ x ∈ objT t, wE x.2 = 0 := by
  simp only [tenB, Bool.and_eq_true, decide_eq_true_eq] at h
  obtain ⟨hn, _, _, hs, hg, hst, hl, hl2⟩ := h
  obtain ⟨h1, h2, h3⟩ := head_small t hg hl hl2
  simp only [setsB, Bool.and_eq_true, List.all_eq_true] at hs
  simp only [stsB, Bool.and_eq_true, List.all_eq_true] at hst
  intro x hx
  simp only [objT, List.mem_cons, List.mem_append, List.mem_map] at hx
  rcases hx with rfl | ⟨s, hs', rfl⟩ | ⟨s, hs', rfl⟩
  · exact wE_small (show (headT t).length ≤ 1024 by omega) h3
  · obtain ⟨d0, _, d1, _⟩ := dst_small _ s (hs.2.2.1 s hs')
    exact wE_small (show (dstT s).length ≤ 1024 by omega) d1
  · obtain ⟨d0, _, d1, _⟩ := stg_small s (hst.2.1 s hs')
    exact wE_small (show (stgT s).length ≤ 1024 by omega) d1
end Go.Proofs.YtckaneapjpiocaaGreatDoor
