/- The texts Snp, Rsn in one file. -/
import Derived.Test.YtmecjjmlccdppaaGreatDoorM30
import Derived.Test.YtmecjjmlccdppaaGreatDoorM20
import Derived.Test.YtmecjjmlccdppaaGreatDoorM27
import Derived.Test.YtmecjjmlccdppaaGreatDoorM18
import Derived.Test.YtmecjjmlccdppaaGreatDoorM24
/- Snapshots; staging.Snap and the reference's Snap: the walks. -/
namespace Go.Proofs.YtmecjjmlccdppaaGreatDoor
open Go.RowKit
set_option linter.unusedVariables false
set_option linter.unusedSimpArgs false

structure Snp where
  name : ByteArray
  guid : Int
  bA : Option Addr
  bn : Nat
  bc : Nat
  body : List Blk
  tA : Option Addr
  tn : Nat
  tc : Nat
  tags : List ByteArray
  oA : Option Addr
  on : Nat
  oc : Nat
  own : List Prp
def Snp.cells (x : Snp) : List Value := [.string x.name, .int .i64 x.guid, .slice x.bA x.bn x.bc, .slice x.tA x.tn x.tc, .slice x.oA x.on x.oc]
def Snp.bare (x : Snp) : Snp := { x with bA := none, bn := 0, bc := 0, tA := none, tn := 0, tc := 0, oA := none, on := 0, oc := 0 }
structure Snp.rd (w : World) (x : Snp) : Prop where
  bodyN : x.bn = x.body.length
  bodyM : x.bn ≤ 200000000
  bodyR : Rd w 0 w.heap.size x.bA (blks x.body)
  tN : x.tn = x.tags.length
  tM : x.tn ≤ 200000000
  tR : Rd w 0 w.heap.size x.tA (x.tags.map Value.string)
  ownN : x.on = x.own.length
  ownM : x.on ≤ 200000000
  ownR : Rd w 0 w.heap.size x.oA (prps x.own)
theorem Snp.rd.ext {w w' : World} {x : Snp} (h : x.rd w) (e : Ext w w') : x.rd w' := ⟨h.bodyN, h.bodyM, Rd.at h.bodyR e (Nat.le_refl _), h.tN, h.tM, Rd.at h.tR e (Nat.le_refl _), h.ownN, h.ownM, Rd.at h.ownR e (Nat.le_refl _)⟩
def zeroN : Snp := ⟨⟨#[]⟩, 0, none, 0, 0, [], none, 0, 0, [], none, 0, 0, []⟩
def SnOut (w : World) (A : Snp) (E : Int) (e : Ending) (w' : World) : Prop :=
  ∃ y : Snp, e = .returned (.tuple #[.agg y.cells.toArray, .int .i64 E]) ∧ y.bare = A ∧ y.rd w' ∧ Ext w w'
theorem snout_zero {w w' : World} {E : Int} (e : Ext w w') : SnOut w zeroN E (.returned (.tuple #[.agg zeroN.cells.toArray, .int .i64 E])) w' :=
  ⟨zeroN, rfl, rfl, ⟨rfl, Nat.zero_le _, fun h => absurd rfl h, rfl, Nat.zero_le _, fun h => absurd rfl h, rfl, Nat.zero_le _, fun h => absurd rfl h⟩, e⟩
theorem sizeSnp : (Tryz.prog.info? 50).map (·.size) = some 5 := by kernel_rfl
def snapE (x : Stg) (fs : List Prp) : Int := if stE x ≠ 0 then stE x else if x.done = false then 35 else ovE [x.beg.own, fs]
def snapA (x : Stg) (fs : List Prp) : Snp := if snapE x fs = 0 then ⟨x.beg.name, x.beg.guid, none, 0, 0, x.body, none, 0, 0, [], none, 0, 0, ovL [x.beg.own, fs]⟩ else zeroN
theorem nzero_of_ne {A B : Snp} {V : Int} (h : A = if V = 0 then B else zeroN) (hV : V ≠ 0) : A = zeroN := by rw [h, if_neg hV]
theorem ovL_len (ls : List (List Prp)) : (ovL ls).length ≤ 8 := by
  unfold ovL
  split
  · rename_i h
    unfold ovE at h
    split at h
    · cases h
    · split at h
      · cases h
      · omega
  · exact Nat.zero_le _

set_option maxRecDepth 100000 in
set_option maxHeartbeats 8000000 in
theorem snap_any (w : World) (hM : MaxV w) (x : Stg) (hx : x.ok w) (fA : Option Addr) (fn fc : Nat) (fs : List Prp) (hf : PlOk w ⟨fA, fn, fc, fs⟩) :
    Calls Tryz.prog 17 #[.agg x.cells.toArray, .slice fA fn fc] w (SnOut w (snapA x fs) (snapE x fs)) := by
  have HCk := Lib.hid (fun W (hW : Ext w W) => scheck_any W x (hx.ext hW) (hM.ext hW))
  have HBc := Lib.hid (fun W (hW : Ext w W) => bclone_any W x.bA x.bn x.bc x.body hx.bodyN (Rd.at hx.bodyR hW (Nat.le_refl _)) (by have := hx.bodyM; omega))
  have hbo : PlOk w ⟨x.beg.oA, x.beg.on, x.beg.oc, x.beg.own⟩ := ⟨hx.beg.own, hx.begR, hx.beg.props, hx.begN⟩
  have HOv := Lib.hid (fun W A (hW : Ext w W) (hA : Rd W 0 W.heap.size A [.slice x.beg.oA x.beg.on x.beg.oc, .slice fA fn fc]) => show Calls Tryz.prog 43 #[.slice A 2 2] W (OvOut W [x.beg.own, fs]) from
    over_any W A 2 2 [⟨x.beg.oA, x.beg.on, x.beg.oc, x.beg.own⟩, ⟨fA, fn, fc, fs⟩] rfl (by omega) hA (fun s hs => by
      simp only [List.mem_cons, List.not_mem_nil, or_false] at hs
      rcases hs with rfl | rfl
      · exact hbo.ext hW
      · exact hf.ext hW))
  have HOx := Lib.hid (fun W e w' (h : OvOut W [x.beg.own, fs] e w') => show ∃ v, e = .returned (.tuple #[v, .int .i64 (ovE [x.beg.own, fs])]) ∧ w'.ownsRow W.heap.size 79 2 v (ovL [x.beg.own, fs]).length (prps (ovL [x.beg.own, fs])) ∧ Ext W w' from h)
  have HV := Lib.hid (show snapE x fs = if stE x ≠ 0 then stE x else if x.done = false then 35 else ovE [x.beg.own, fs] from rfl)
  have HSA := Lib.hid (show snapA x fs = if snapE x fs = 0 then ⟨x.beg.name, x.beg.guid, none, 0, 0, x.body, none, 0, 0, [], none, 0, 0, ovL [x.beg.own, fs]⟩ else zeroN from rfl)
  have HBn := Lib.hid hx.bodyN
  have HBm := Lib.hid hx.bodyM
  have HOm := Lib.hid (ovL_len [x.beg.own, fs])
  clear hx hbo hf
  generalize snapE x fs = V at *
  generalize snapA x fs = SA at *
  generalize OvOut = OO at *
  generalize ovE [x.beg.own, fs] = OE at *
  generalize ovL [x.beg.own, fs] = OL at *
  generalize stE x = SE at *
  obtain ⟨into, ⟨kind, name, frm, guid, oA, on, oc, own, index, count, data, s0, s1, s2, s3⟩, bA, bn, bc, body, pos, next, ⟨ua, ub, uc, ud⟩, dn⟩ := x
  dsimp only at HV HSA HBc HBn HBm HOv HOx
  simp only [Stg.cells, Rec.cells, Su.cells, List.cons_append, List.nil_append] at HCk ⊢
  by_cases c1 : SE = 0
  · rw [if_neg (by simpa using c1)] at HV
    subst c1
    cases dn with
    | false =>
      have HF := Lib.hid (show V = 35 by rw [HV.out]; simp)
      go_enter Tryz.func17, Tryz.ntmps17; go_upto_region 1 with fail; generalize hwH : World.alloc (World.alloc w _) _ = w1; have HH := Lib.hid (Heap.two hwH); clear hwH
      have HG := Lib.hid (nzero_of_ne HSA.out (by rw [HF.out]; first | assumption | decide)); go_wp2_with (first | (refine shl_load HH.out sizeStg (by kernel_rfl) rfl rfl rfl 1 rfl rfl ?_) | (refine shl_load1 HH.out rfl rfl rfl 1 rfl rfl (by decide +kernel) ?_) | (refine shl_store HH.out sizeSnp rfl rfl rfl rfl 0 rfl rfl rfl rfl ?_; clear HH; intro wS HHS; have HH := Lib.hid HHS; clear HHS) | (go_at_call 11; (with_reducible refine (HCk.out _ HH.out.ext).mono ?_); rintro e wC ⟨rfl, eC⟩; have HHn := Lib.hid (HH.out.later eC); clear HH eC; have HH := HHn; clear HHn)); refine ret_cell2 sizeSnp (by kernel_rfl) HH.out rfl rfl rfl 0 rfl rfl rfl ?_; rw [HF.out, HG.out]; exact snout_zero HH.out.ext
    | true =>
      have HF1 := Lib.hid (show V = OE by rw [HV.out]; simp)
      go_enter Tryz.func17, Tryz.ntmps17; go_upto_region 1 with fail; generalize hwH : World.alloc (World.alloc w _) _ = w1; have HH := Lib.hid (Heap.two hwH); clear hwH
      go_upto_region 6 with (first | (refine shl_load HH.out sizeStg (by kernel_rfl) rfl rfl rfl 1 rfl rfl ?_) | (refine shl_load1 HH.out rfl rfl rfl 1 rfl rfl (by decide +kernel) ?_) | (refine shl_store HH.out sizeSnp rfl rfl rfl rfl 0 rfl rfl rfl rfl ?_; clear HH; intro wS HHS; have HH := Lib.hid HHS; clear HHS) | (go_at_call 11; (with_reducible refine (HCk.out _ HH.out.ext).mono ?_); rintro e wC ⟨rfl, eC⟩; have HHn := Lib.hid (HH.out.later eC); clear HH eC; have HH := HHn; clear HHn))
      go_wp2_with (refine shl_load1 HH.out rfl rfl rfl 1 rfl rfl (by decide +kernel) ?_)
      go_simp; generalize hwA : World.alloc _ _ = w5; have HH5 := Lib.hid ((HH).out.allocE hwA); clear hwA HH
      refine (HOv.out w5 _ HH5.out.ext ((HH5.out.boxRd 0 rfl).more (Nat.zero_le _) (Nat.le_refl _))).mono ?_
      intro e w6 hOO
      obtain ⟨v6, rfl, hown6, e6⟩ := HOx.out _ _ _ hOO
      obtain ⟨A6, c6, rfl, _, _, _⟩ := own_form hown6
      have HH6 := Lib.hid (HH5.out.addRow e6 hown6)
      clear HH5 hown6 e6 hOO
      have HH := HH6
      clear HH6
      by_cases c2 : OE = 0
      · subst c2
        go_upto_region 9 with fail; have HHd := Lib.hid HH.out.drew; clear HH; refine wp_region_held_drew (S := Heap w [_]) (by kernel_rfl) (HHd.out.only 3 rfl) (fun hHeld => ?_); generalize hwd : World.drew w6 = wd at *; clear hwd; refine takeL 0 (v := ?_) rfl (by kernel_rfl) (by kernel_rfl) (by kernel_rfl) (fun _ _ _ h => h) (by kernel_rfl) ?_ (by assumption) ?_; rotate_left; (focus (intro w hSw; (try dsimp only at hSw); go_simp <;> with_reducible rfl)); (try simp only [Act.put, List.setIfInBounds_toArray, List.set_cons_zero, List.set_cons_succ]); refine takeL 1 (v := ?_) rfl (by kernel_rfl) (by kernel_rfl) (by kernel_rfl) (fun _ _ _ h => h) (by kernel_rfl) ?_ (by assumption) ?_; rotate_left; (focus (intro w hSw; (try dsimp only at hSw); go_simp <;> with_reducible rfl)); (try simp only [Act.put, List.setIfInBounds_toArray, List.set_cons_zero, List.set_cons_succ]); refine takeL 2 rfl (by kernel_rfl) (by kernel_rfl) (by kernel_rfl) (fun _ _ _ h => h) (by kernel_rfl) (fun wT hST => sh_run_load1 hST rfl rfl 0 rfl rfl (by kernel_rfl)) hHeld ?_; (try simp only [Act.put, List.setIfInBounds_toArray, List.set_cons_zero, List.set_cons_succ]); refine takeL 3 (v := ?_) rfl (by kernel_rfl) (by kernel_rfl) (by kernel_rfl) (fun _ _ _ h => h) (by kernel_rfl) ?_ (by assumption) ?_; rotate_left; (focus (intro w hSw; (try dsimp only at hSw); go_simp <;> with_reducible rfl)); (try simp only [Act.put, List.setIfInBounds_toArray, List.set_cons_zero, List.set_cons_succ]); refine takeL 4 (v := ?_) rfl (by kernel_rfl) (by kernel_rfl) (by kernel_rfl) (fun _ _ _ h => h) (by kernel_rfl) ?_ (by assumption) ?_; rotate_left; (focus (intro w hSw; (try dsimp only at hSw); go_simp <;> with_reducible rfl)); (try simp only [Act.put, List.setIfInBounds_toArray, List.set_cons_zero, List.set_cons_succ]); refine takeL 5 rfl (by kernel_rfl) (by kernel_rfl) (by kernel_rfl) (fun _ _ _ h => h) (by kernel_rfl) (fun wT hST => sh_run_load1 hST rfl rfl 0 rfl rfl (by kernel_rfl)) hHeld ?_; (try simp only [Act.put, List.setIfInBounds_toArray, List.set_cons_zero, List.set_cons_succ]); refine takeL 6 (v := ?_) rfl (by kernel_rfl) (by kernel_rfl) (by kernel_rfl) (fun _ _ _ h => h) (by kernel_rfl) ?_ (by assumption) ?_; rotate_left; (focus (intro w hSw; (try dsimp only at hSw); go_simp <;> with_reducible rfl)); (try simp only [Act.put, List.setIfInBounds_toArray, List.set_cons_zero, List.set_cons_succ]); refine takeL 7 rfl (by kernel_rfl) (by kernel_rfl) (by kernel_rfl) (fun _ _ _ h => h) (by kernel_rfl) (fun wT hST => sh_run_load1 hST rfl rfl 0 rfl rfl (by kernel_rfl)) hHeld ?_; (try simp only [Act.put, List.setIfInBounds_toArray, List.set_cons_zero, List.set_cons_succ]); refine takeL 9 (v := ?_) rfl (by kernel_rfl) (by kernel_rfl) (by kernel_rfl) (fun _ _ _ h => h) (by kernel_rfl) ?_ (by assumption) ?_; rotate_left; (focus (intro w hSw; (try dsimp only at hSw); go_simp <;> with_reducible rfl)); (try simp only [Act.put, List.setIfInBounds_toArray, List.set_cons_zero, List.set_cons_succ]); clear hHeld; refine oneL 8 rfl (by kernel_rfl) (by kernel_rfl) (fun K hK => ?_)
        go_simp; refine (HBc.out _ HHd.out.ext).mono ?_; rintro e w8 ⟨vw8, rfl, hownw8, ew8⟩; obtain ⟨Aw8, cw8, rfl, _, _, _⟩ := own_form hownw8; have HH8 := Lib.hid ((HHd).out.addRow ew8 hownw8); clear HHd hownw8 ew8; go_wp2_with fail
        refine hK.out _ _ (HH8.out.only 4 rfl) (fun hHeld => ?_); clear hK K; (try simp only [Act.put, List.setIfInBounds_toArray, List.set_cons_zero, List.set_cons_succ]); refine takeL 10 (v := ?_) rfl (by kernel_rfl) (by kernel_rfl) (by kernel_rfl) (fun _ _ _ h => h) (by kernel_rfl) ?_ (by assumption) ?_; rotate_left; (focus (intro w hSw; (try dsimp only at hSw); go_simp <;> with_reducible rfl)); (try simp only [Act.put, List.setIfInBounds_toArray, List.set_cons_zero, List.set_cons_succ]); clear hHeld; refine oneL 11 rfl (by kernel_rfl) (by kernel_rfl) (fun K hK => ?_); refine sh_store HH8.out sizeSnp rfl rfl rfl 3 rfl rfl (Nat.le_of_ble_eq_true rfl) rfl ?_; intro w9 hh9; have HH9 := Lib.hid hh9; clear hh9 HH8; refine hK.out _ _ (HH9.out.only 4 rfl) (fun hHeld => ?_); clear hK K; (try simp only [Act.put, List.setIfInBounds_toArray, List.set_cons_zero, List.set_cons_succ]); refine takeL 12 (v := ?_) rfl (by kernel_rfl) (by kernel_rfl) (by kernel_rfl) (fun _ _ _ h => h) (by kernel_rfl) ?_ (by assumption) ?_; rotate_left; (focus (intro w hSw; (try dsimp only at hSw); go_simp <;> with_reducible rfl)); (try simp only [Act.put, List.setIfInBounds_toArray, List.set_cons_zero, List.set_cons_succ]); refine wpAnyH_done (by kernel_rfl) ?_ _; go_wp2_with fail; refine ret_cell2 sizeSnp (by kernel_rfl) HH9.out rfl rfl rfl 3 rfl rfl rfl ?_; rw [HF1.out]; have HG := Lib.hid (HSA.out.trans (if_pos HF1.out)); rw [HG.out]; exact ⟨⟨name, guid, Aw8, bn, cw8, body, none, 0, 0, [], A6, OL.length, c6, OL⟩, rfl, rfl, ⟨HBn.out, (by have := HBm.out; show bn ≤ 200000000; omega), (Rd.of_own (HH9.out.rowAt 0 rfl)).more (Nat.zero_le _) (Nat.le_refl _), rfl, Nat.zero_le _, fun h => absurd rfl h, rfl, (by have := HOm.out; show OL.length ≤ 200000000; omega), (Rd.of_own (HH9.out.rowAt 1 rfl)).more (Nat.zero_le _) (Nat.le_refl _)⟩, HH9.out.ext⟩
      · have d3 : (OE != 0) = true := by simpa using c2
        have HF := Lib.hid (show V ≠ 0 by rw [HF1.out]; exact c2)
        have HG := Lib.hid (nzero_of_ne HSA.out HF.out)
        go_wp2_with (refine shl_store HH.out sizeSnp rfl rfl rfl rfl 2 rfl rfl rfl rfl ?_; clear HH; intro wS HHS; have HH := Lib.hid HHS; clear HHS)
        refine ret_cell2 sizeSnp (by kernel_rfl) HH.out rfl rfl rfl 2 rfl rfl rfl ?_
        rw [HF1.out, HG.out]
        exact snout_zero HH.out.ext
  · have HF := Lib.hid (show V = SE by rw [HV.out, if_pos c1])
    have d3 : (SE != 0) = true := by simpa using c1
    go_enter Tryz.func17, Tryz.ntmps17; go_upto_region 1 with fail; generalize hwH : World.alloc (World.alloc w _) _ = w1; have HH := Lib.hid (Heap.two hwH); clear hwH
    have HG := Lib.hid (nzero_of_ne HSA.out (by rw [HF.out]; first | assumption | decide)); go_wp2_with (first | (refine shl_load HH.out sizeStg (by kernel_rfl) rfl rfl rfl 1 rfl rfl ?_) | (refine shl_load1 HH.out rfl rfl rfl 1 rfl rfl (by decide +kernel) ?_) | (refine shl_store HH.out sizeSnp rfl rfl rfl rfl 0 rfl rfl rfl rfl ?_; clear HH; intro wS HHS; have HH := Lib.hid HHS; clear HHS) | (go_at_call 11; (with_reducible refine (HCk.out _ HH.out.ext).mono ?_); rintro e wC ⟨rfl, eC⟩; have HHn := Lib.hid (HH.out.later eC); clear HH eC; have HH := HHn; clear HHn)); refine ret_cell2 sizeSnp (by kernel_rfl) HH.out rfl rfl rfl 0 rfl rfl rfl ?_; rw [HF.out, HG.out]; exact snout_zero HH.out.ext
end Go.Proofs.YtmecjjmlccdppaaGreatDoor
/- The reference's Snap (chapter 19); SameSnap: the walks. -/
namespace Go.Proofs.YtmecjjmlccdppaaGreatDoor
open Go.RowKit
set_option linter.unusedVariables false
set_option linter.unusedSimpArgs false

set_option maxRecDepth 100000 in
set_option maxHeartbeats 8000000 in
theorem rsnap_any (w : World) (x : Stg) (hx : x.ok w) (fA : Option Addr) (fn fc : Nat) (fs : List Prp) (hf : PlOk w ⟨fA, fn, fc, fs⟩) :
    Calls Tryz.prog 18 #[.agg x.cells.toArray, .slice fA fn fc] w (SnOut w (snapA x fs) (snapE x fs)) := by
  have HCk := Lib.hid (fun W (hW : Ext w W) => rstage_any W x (hx.ext hW))
  have HBc := Lib.hid (fun W (hW : Ext w W) => rown_any W x.bA x.bn x.bc x.body hx.bodyN (Rd.at hx.bodyR hW (Nat.le_refl _)) (by have := hx.bodyM; omega))
  have hbo : PlOk w ⟨x.beg.oA, x.beg.on, x.beg.oc, x.beg.own⟩ := ⟨hx.beg.own, hx.begR, hx.beg.props, hx.begN⟩
  have HOv := Lib.hid (fun W A (hW : Ext w W) (hA : Rd W 0 W.heap.size A [.slice x.beg.oA x.beg.on x.beg.oc, .slice fA fn fc]) => show Calls Tryz.prog 23 #[.slice A 2 2] W (OvOut W [x.beg.own, fs]) from
    rover_any W A 2 2 [⟨x.beg.oA, x.beg.on, x.beg.oc, x.beg.own⟩, ⟨fA, fn, fc, fs⟩] rfl (by omega) hA (fun s hs => by
      simp only [List.mem_cons, List.not_mem_nil, or_false] at hs
      rcases hs with rfl | rfl
      · exact hbo.ext hW
      · exact hf.ext hW))
  have HOx := Lib.hid (fun W e w' (h : OvOut W [x.beg.own, fs] e w') => show ∃ v, e = .returned (.tuple #[v, .int .i64 (ovE [x.beg.own, fs])]) ∧ w'.ownsRow W.heap.size 79 2 v (ovL [x.beg.own, fs]).length (prps (ovL [x.beg.own, fs])) ∧ Ext W w' from h)
  have HV := Lib.hid (show snapE x fs = if stE x ≠ 0 then stE x else if x.done = false then 35 else ovE [x.beg.own, fs] from rfl)
  have HSA := Lib.hid (show snapA x fs = if snapE x fs = 0 then ⟨x.beg.name, x.beg.guid, none, 0, 0, x.body, none, 0, 0, [], none, 0, 0, ovL [x.beg.own, fs]⟩ else zeroN from rfl)
  have HBn := Lib.hid hx.bodyN
  have HBm := Lib.hid hx.bodyM
  have HOm := Lib.hid (ovL_len [x.beg.own, fs])
  clear hx hbo hf
  generalize snapE x fs = V at *
  generalize snapA x fs = SA at *
  generalize OvOut = OO at *
  generalize ovE [x.beg.own, fs] = OE at *
  generalize ovL [x.beg.own, fs] = OL at *
  have HSe := Lib.hid (show stE x = if stB x then 0 else 9 from rfl)
  generalize stE x = SE at *
  generalize stB x = SB at *
  obtain ⟨into, ⟨kind, name, frm, guid, oA, on, oc, own, index, count, data, s0, s1, s2, s3⟩, bA, bn, bc, body, pos, next, ⟨ua, ub, uc, ud⟩, dn⟩ := x
  dsimp only at HV HSA HBc HBn HBm HOv HOx
  simp only [Stg.cells, Rec.cells, Su.cells, List.cons_append, List.nil_append] at HCk ⊢
  cases SB with
  | true =>
    obtain rfl : SE = 0 := HSe.out
    rw [if_neg (by decide)] at HV
    cases dn with
    | false =>
      have HF := Lib.hid (show V = 35 by rw [HV.out]; simp)
      go_enter Tryz.func18, Tryz.ntmps18; go_upto_region 1 with fail; generalize hwH : World.alloc (World.alloc w _) _ = w1; have HH := Lib.hid (Heap.two hwH); clear hwH
      have HG := Lib.hid (nzero_of_ne HSA.out (by rw [HF.out]; first | assumption | decide)); go_wp2_with (first | (refine shl_load HH.out sizeStg (by kernel_rfl) rfl rfl rfl 1 rfl rfl ?_) | (refine shl_load1 HH.out rfl rfl rfl 1 rfl rfl (by decide +kernel) ?_) | (refine shl_store HH.out sizeSnp rfl rfl rfl rfl 0 rfl rfl rfl rfl ?_; clear HH; intro wS HHS; have HH := Lib.hid HHS; clear HHS) | (go_at_call 12; (with_reducible refine (HCk.out _ HH.out.ext).mono ?_); rintro e wC ⟨rfl, eC⟩; have HHn := Lib.hid (HH.out.later eC); clear HH eC; have HH := HHn; clear HHn)); refine ret_cell2 sizeSnp (by kernel_rfl) HH.out rfl rfl rfl 0 rfl rfl rfl ?_; rw [HF.out, HG.out]; exact snout_zero HH.out.ext
    | true =>
      have HF1 := Lib.hid (show V = OE by rw [HV.out]; simp)
      go_enter Tryz.func18, Tryz.ntmps18; go_upto_region 1 with fail; generalize hwH : World.alloc (World.alloc w _) _ = w1; have HH := Lib.hid (Heap.two hwH); clear hwH
      go_upto_region 5 with (first | (refine shl_load HH.out sizeStg (by kernel_rfl) rfl rfl rfl 1 rfl rfl ?_) | (refine shl_load1 HH.out rfl rfl rfl 1 rfl rfl (by decide +kernel) ?_) | (refine shl_store HH.out sizeSnp rfl rfl rfl rfl 0 rfl rfl rfl rfl ?_; clear HH; intro wS HHS; have HH := Lib.hid HHS; clear HHS) | (go_at_call 12; (with_reducible refine (HCk.out _ HH.out.ext).mono ?_); rintro e wC ⟨rfl, eC⟩; have HHn := Lib.hid (HH.out.later eC); clear HH eC; have HH := HHn; clear HHn))
      go_wp2_with (refine shl_load1 HH.out rfl rfl rfl 1 rfl rfl (by decide +kernel) ?_)
      go_simp; generalize hwA : World.alloc _ _ = w5; have HH5 := Lib.hid ((HH).out.allocE hwA); clear hwA HH
      refine (HOv.out w5 _ HH5.out.ext ((HH5.out.boxRd 0 rfl).more (Nat.zero_le _) (Nat.le_refl _))).mono ?_
      intro e w6 hOO
      obtain ⟨v6, rfl, hown6, e6⟩ := HOx.out _ _ _ hOO
      obtain ⟨A6, c6, rfl, _, _, _⟩ := own_form hown6
      have HH6 := Lib.hid (HH5.out.addRow e6 hown6)
      clear HH5 hown6 e6 hOO
      have HH := HH6
      clear HH6
      by_cases c2 : OE = 0
      · subst c2
        go_upto_region 8 with fail; have HHd := Lib.hid HH.out.drew; clear HH; refine wp_region_held_drew (S := Heap w [_]) (by kernel_rfl) (HHd.out.only 3 rfl) (fun hHeld => ?_); generalize hwd : World.drew w6 = wd at *; clear hwd; refine takeL 0 (v := ?_) rfl (by kernel_rfl) (by kernel_rfl) (by kernel_rfl) (fun _ _ _ h => h) (by kernel_rfl) ?_ (by assumption) ?_; rotate_left; (focus (intro w hSw; (try dsimp only at hSw); go_simp <;> with_reducible rfl)); (try simp only [Act.put, List.setIfInBounds_toArray, List.set_cons_zero, List.set_cons_succ]); refine takeL 1 (v := ?_) rfl (by kernel_rfl) (by kernel_rfl) (by kernel_rfl) (fun _ _ _ h => h) (by kernel_rfl) ?_ (by assumption) ?_; rotate_left; (focus (intro w hSw; (try dsimp only at hSw); go_simp <;> with_reducible rfl)); (try simp only [Act.put, List.setIfInBounds_toArray, List.set_cons_zero, List.set_cons_succ]); refine takeL 2 rfl (by kernel_rfl) (by kernel_rfl) (by kernel_rfl) (fun _ _ _ h => h) (by kernel_rfl) (fun wT hST => sh_run_load1 hST rfl rfl 0 rfl rfl (by kernel_rfl)) hHeld ?_; (try simp only [Act.put, List.setIfInBounds_toArray, List.set_cons_zero, List.set_cons_succ]); refine takeL 3 (v := ?_) rfl (by kernel_rfl) (by kernel_rfl) (by kernel_rfl) (fun _ _ _ h => h) (by kernel_rfl) ?_ (by assumption) ?_; rotate_left; (focus (intro w hSw; (try dsimp only at hSw); go_simp <;> with_reducible rfl)); (try simp only [Act.put, List.setIfInBounds_toArray, List.set_cons_zero, List.set_cons_succ]); refine takeL 4 (v := ?_) rfl (by kernel_rfl) (by kernel_rfl) (by kernel_rfl) (fun _ _ _ h => h) (by kernel_rfl) ?_ (by assumption) ?_; rotate_left; (focus (intro w hSw; (try dsimp only at hSw); go_simp <;> with_reducible rfl)); (try simp only [Act.put, List.setIfInBounds_toArray, List.set_cons_zero, List.set_cons_succ]); refine takeL 5 rfl (by kernel_rfl) (by kernel_rfl) (by kernel_rfl) (fun _ _ _ h => h) (by kernel_rfl) (fun wT hST => sh_run_load1 hST rfl rfl 0 rfl rfl (by kernel_rfl)) hHeld ?_; (try simp only [Act.put, List.setIfInBounds_toArray, List.set_cons_zero, List.set_cons_succ]); refine takeL 6 (v := ?_) rfl (by kernel_rfl) (by kernel_rfl) (by kernel_rfl) (fun _ _ _ h => h) (by kernel_rfl) ?_ (by assumption) ?_; rotate_left; (focus (intro w hSw; (try dsimp only at hSw); go_simp <;> with_reducible rfl)); (try simp only [Act.put, List.setIfInBounds_toArray, List.set_cons_zero, List.set_cons_succ]); refine takeL 7 rfl (by kernel_rfl) (by kernel_rfl) (by kernel_rfl) (fun _ _ _ h => h) (by kernel_rfl) (fun wT hST => sh_run_load1 hST rfl rfl 0 rfl rfl (by kernel_rfl)) hHeld ?_; (try simp only [Act.put, List.setIfInBounds_toArray, List.set_cons_zero, List.set_cons_succ]); refine takeL 9 (v := ?_) rfl (by kernel_rfl) (by kernel_rfl) (by kernel_rfl) (fun _ _ _ h => h) (by kernel_rfl) ?_ (by assumption) ?_; rotate_left; (focus (intro w hSw; (try dsimp only at hSw); go_simp <;> with_reducible rfl)); (try simp only [Act.put, List.setIfInBounds_toArray, List.set_cons_zero, List.set_cons_succ]); clear hHeld; refine oneL 8 rfl (by kernel_rfl) (by kernel_rfl) (fun K hK => ?_)
        go_simp; refine (HBc.out _ HHd.out.ext).mono ?_; rintro e w8 ⟨vw8, rfl, hownw8, ew8⟩; obtain ⟨Aw8, cw8, rfl, _, _, _⟩ := own_form hownw8; have HH8 := Lib.hid ((HHd).out.addRow ew8 hownw8); clear HHd hownw8 ew8; go_wp2_with fail
        refine hK.out _ _ (HH8.out.only 4 rfl) (fun hHeld => ?_); clear hK K; (try simp only [Act.put, List.setIfInBounds_toArray, List.set_cons_zero, List.set_cons_succ]); refine takeL 10 (v := ?_) rfl (by kernel_rfl) (by kernel_rfl) (by kernel_rfl) (fun _ _ _ h => h) (by kernel_rfl) ?_ (by assumption) ?_; rotate_left; (focus (intro w hSw; (try dsimp only at hSw); go_simp <;> with_reducible rfl)); (try simp only [Act.put, List.setIfInBounds_toArray, List.set_cons_zero, List.set_cons_succ]); clear hHeld; refine oneL 11 rfl (by kernel_rfl) (by kernel_rfl) (fun K hK => ?_); refine sh_store HH8.out sizeSnp rfl rfl rfl 3 rfl rfl (Nat.le_of_ble_eq_true rfl) rfl ?_; intro w9 hh9; have HH9 := Lib.hid hh9; clear hh9 HH8; refine hK.out _ _ (HH9.out.only 4 rfl) (fun hHeld => ?_); clear hK K; (try simp only [Act.put, List.setIfInBounds_toArray, List.set_cons_zero, List.set_cons_succ]); refine takeL 12 (v := ?_) rfl (by kernel_rfl) (by kernel_rfl) (by kernel_rfl) (fun _ _ _ h => h) (by kernel_rfl) ?_ (by assumption) ?_; rotate_left; (focus (intro w hSw; (try dsimp only at hSw); go_simp <;> with_reducible rfl)); (try simp only [Act.put, List.setIfInBounds_toArray, List.set_cons_zero, List.set_cons_succ]); refine wpAnyH_done (by kernel_rfl) ?_ _; go_wp2_with fail; refine ret_cell2 sizeSnp (by kernel_rfl) HH9.out rfl rfl rfl 3 rfl rfl rfl ?_; rw [HF1.out]; have HG := Lib.hid (HSA.out.trans (if_pos HF1.out)); rw [HG.out]; exact ⟨⟨name, guid, Aw8, bn, cw8, body, none, 0, 0, [], A6, OL.length, c6, OL⟩, rfl, rfl, ⟨HBn.out, (by have := HBm.out; show bn ≤ 200000000; omega), (Rd.of_own (HH9.out.rowAt 0 rfl)).more (Nat.zero_le _) (Nat.le_refl _), rfl, Nat.zero_le _, fun h => absurd rfl h, rfl, (by have := HOm.out; show OL.length ≤ 200000000; omega), (Rd.of_own (HH9.out.rowAt 1 rfl)).more (Nat.zero_le _) (Nat.le_refl _)⟩, HH9.out.ext⟩
      · have d3 : (OE != 0) = true := by simpa using c2
        have HF := Lib.hid (show V ≠ 0 by rw [HF1.out]; exact c2)
        have HG := Lib.hid (nzero_of_ne HSA.out HF.out)
        go_wp2_with (refine shl_store HH.out sizeSnp rfl rfl rfl rfl 2 rfl rfl rfl rfl ?_; clear HH; intro wS HHS; have HH := Lib.hid HHS; clear HHS)
        refine ret_cell2 sizeSnp (by kernel_rfl) HH.out rfl rfl rfl 2 rfl rfl rfl ?_
        rw [HF1.out, HG.out]
        exact snout_zero HH.out.ext
  | false =>
    obtain rfl : SE = 9 := HSe.out
    rw [if_pos (by decide)] at HV
    have HF := Lib.hid (show V = 9 from HV.out)
    go_enter Tryz.func18, Tryz.ntmps18; go_upto_region 1 with fail; generalize hwH : World.alloc (World.alloc w _) _ = w1; have HH := Lib.hid (Heap.two hwH); clear hwH
    have HG := Lib.hid (nzero_of_ne HSA.out (by rw [HF.out]; first | assumption | decide)); go_wp2_with (first | (refine shl_load HH.out sizeStg (by kernel_rfl) rfl rfl rfl 1 rfl rfl ?_) | (refine shl_load1 HH.out rfl rfl rfl 1 rfl rfl (by decide +kernel) ?_) | (refine shl_store HH.out sizeSnp rfl rfl rfl rfl 0 rfl rfl rfl rfl ?_; clear HH; intro wS HHS; have HH := Lib.hid HHS; clear HHS) | (go_at_call 12; (with_reducible refine (HCk.out _ HH.out.ext).mono ?_); rintro e wC ⟨rfl, eC⟩; have HHn := Lib.hid (HH.out.later eC); clear HH eC; have HH := HHn; clear HHn)); refine ret_cell2 sizeSnp (by kernel_rfl) HH.out rfl rfl rfl 0 rfl rfl rfl ?_; rw [HF.out, HG.out]; exact snout_zero HH.out.ext
end Go.Proofs.YtmecjjmlccdppaaGreatDoor
