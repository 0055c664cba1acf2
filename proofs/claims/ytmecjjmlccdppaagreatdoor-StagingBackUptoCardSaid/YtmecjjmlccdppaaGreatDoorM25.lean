/- The texts Snp, Make, Rc1 in one file. -/
import Derived.Test.YtmecjjmlccdppaaGreatDoorM24
import Derived.Test.YtmecjjmlccdppaaGreatDoorM20
import Derived.Test.YtmecjjmlccdppaaGreatDoorM3
import Derived.Test.YtmecjjmlccdppaaGreatDoorM21
/- Snapshots; staging.Snap and the reference's Snap: the walks. -/
namespace Go.Proofs.YtmecjjmlccdppaaGreatDoor
open Go.RowKit
set_option linter.unusedVariables false
set_option linter.unusedSimpArgs false

structure Snp where
  name : ByteArray
  guid : Int
  bA : Option Addr
  bn : Nat
  bc : Nat
  body : List Blk
  tA : Option Addr
  tn : Nat
  tc : Nat
  tags : List ByteArray
  oA : Option Addr
  on : Nat
  oc : Nat
  own : List Prp
def Snp.cells (x : Snp) : List Value := [.string x.name, .int .i64 x.guid, .slice x.bA x.bn x.bc, .slice x.tA x.tn x.tc, .slice x.oA x.on x.oc]
def Snp.bare (x : Snp) : Snp := { x with bA := none, bn := 0, bc := 0, tA := none, tn := 0, tc := 0, oA := none, on := 0, oc := 0 }
structure Snp.rd (w : World) (x : Snp) : Prop where
  bodyN : x.bn = x.body.length
  bodyM : x.bn ≤ 200000000
  bodyR : Rd w 0 w.heap.size x.bA (blks x.body)
  tN : x.tn = x.tags.length
  tM : x.tn ≤ 200000000
  tR : Rd w 0 w.heap.size x.tA (x.tags.map Value.string)
  ownN : x.on = x.own.length
  ownM : x.on ≤ 200000000
  ownR : Rd w 0 w.heap.size x.oA (prps x.own)
theorem Snp.rd.ext {w w' : World} {x : Snp} (h : x.rd w) (e : Ext w w') : x.rd w' := ⟨h.bodyN, h.bodyM, Rd.at h.bodyR e (Nat.le_refl _), h.tN, h.tM, Rd.at h.tR e (Nat.le_refl _), h.ownN, h.ownM, Rd.at h.ownR e (Nat.le_refl _)⟩
def zeroN : Snp := ⟨⟨#[]⟩, 0, none, 0, 0, [], none, 0, 0, [], none, 0, 0, []⟩
def SnOut (w : World) (A : Snp) (E : Int) (e : Ending) (w' : World) : Prop :=
  ∃ y : Snp, e = .returned (.tuple #[.agg y.cells.toArray, .int .i64 E]) ∧ y.bare = A ∧ y.rd w' ∧ Ext w w'
theorem snout_zero {w w' : World} {E : Int} (e : Ext w w') : SnOut w zeroN E (.returned (.tuple #[.agg zeroN.cells.toArray, .int .i64 E])) w' :=
  ⟨zeroN, rfl, rfl, ⟨rfl, Nat.zero_le _, fun h => absurd rfl h, rfl, Nat.zero_le _, fun h => absurd rfl h, rfl, Nat.zero_le _, fun h => absurd rfl h⟩, e⟩
theorem sizeSnp : (Tryz.prog.info? 50).map (·.size) = some 5 := by kernel_rfl
def snapE (x : Stg) (fs : List Prp) : Int := if stE x ≠ 0 then stE x else if x.done = false then 35 else ovE [x.beg.own, fs]
def snapA (x : Stg) (fs : List Prp) : Snp := if snapE x fs = 0 then ⟨x.beg.name, x.beg.guid, none, 0, 0, x.body, none, 0, 0, [], none, 0, 0, ovL [x.beg.own, fs]⟩ else zeroN
theorem nzero_of_ne {A B : Snp} {V : Int} (h : A = if V = 0 then B else zeroN) (hV : V ≠ 0) : A = zeroN := by rw [h, if_neg hV]
theorem ovL_len (ls : List (List Prp)) : (ovL ls).length ≤ 8 := by
  unfold ovL
  split
  · rename_i h
    unfold ovE at h
    split at h
    · cases h
    · split at h
      · cases h
      · omega
  · exact Nat.zero_le _

set_option maxRecDepth 100000 in
set_option maxHeartbeats 8000000 in
theorem snap_any (w : World) (hM : MaxV w) (x : Stg) (hx : x.ok w) (fA : Option Addr) (fn fc : Nat) (fs : List Prp) (hf : PlOk w ⟨fA, fn, fc, fs⟩) :
    Calls Tryz.prog 17 #[.agg x.cells.toArray, .slice fA fn fc] w (SnOut w (snapA x fs) (snapE x fs)) := by
  have HCk := Lib.hid (fun W (hW : Ext w W) => scheck_any W x (hx.ext hW) (hM.ext hW))
  have HBc := Lib.hid (fun W (hW : Ext w W) => bclone_any W x.bA x.bn x.bc x.body hx.bodyN (Rd.at hx.bodyR hW (Nat.le_refl _)) (by have := hx.bodyM; omega))
  have hbo : PlOk w ⟨x.beg.oA, x.beg.on, x.beg.oc, x.beg.own⟩ := ⟨hx.beg.own, hx.begR, hx.beg.props, hx.begN⟩
  have HOv := Lib.hid (fun W A (hW : Ext w W) (hA : Rd W 0 W.heap.size A [.slice x.beg.oA x.beg.on x.beg.oc, .slice fA fn fc]) => show Calls Tryz.prog 43 #[.slice A 2 2] W (OvOut W [x.beg.own, fs]) from
    over_any W A 2 2 [⟨x.beg.oA, x.beg.on, x.beg.oc, x.beg.own⟩, ⟨fA, fn, fc, fs⟩] rfl (by omega) hA (fun s hs => by
      simp only [List.mem_cons, List.not_mem_nil, or_false] at hs
      rcases hs with rfl | rfl
      · exact hbo.ext hW
      · exact hf.ext hW))
  have HOx := Lib.hid (fun W e w' (h : OvOut W [x.beg.own, fs] e w') => show ∃ v, e = .returned (.tuple #[v, .int .i64 (ovE [x.beg.own, fs])]) ∧ w'.ownsRow W.heap.size 79 2 v (ovL [x.beg.own, fs]).length (prps (ovL [x.beg.own, fs])) ∧ Ext W w' from h)
  have HV := Lib.hid (show snapE x fs = if stE x ≠ 0 then stE x else if x.done = false then 35 else ovE [x.beg.own, fs] from rfl)
  have HSA := Lib.hid (show snapA x fs = if snapE x fs = 0 then ⟨x.beg.name, x.beg.guid, none, 0, 0, x.body, none, 0, 0, [], none, 0, 0, ovL [x.beg.own, fs]⟩ else zeroN from rfl)
  have HBn := Lib.hid hx.bodyN
  have HBm := Lib.hid hx.bodyM
  have HOm := Lib.hid (ovL_len [x.beg.own, fs])
  clear hx hbo hf
  generalize snapE x fs = V at *
  generalize snapA x fs = SA at *
  generalize OvOut = OO at *
  generalize ovE [x.beg.own, fs] = OE at *
  generalize ovL [x.beg.own, fs] = OL at *
  generalize stE x = SE at *
  obtain ⟨into, ⟨kind, name, frm, guid, oA, on, oc, own, index, count, data, s0, s1, s2, s3⟩, bA, bn, bc, body, pos, next, ⟨ua, ub, uc, ud⟩, dn⟩ := x
  dsimp only at HV HSA HBc HBn HBm HOv HOx
  simp only [Stg.cells, Rec.cells, Su.cells, List.cons_append, List.nil_append] at HCk ⊢
  by_cases c1 : SE = 0
  · rw [if_neg (by simpa using c1)] at HV
    subst c1
    cases dn with
    | false =>
      have HF := Lib.hid (show V = 35 by rw [HV.out]; simp)
      go_enter Tryz.func17, Tryz.ntmps17; go_upto_region 1 with fail; generalize hwH : World.alloc (World.alloc w _) _ = w1; have HH := Lib.hid (Heap.two hwH); clear hwH
      have HG := Lib.hid (nzero_of_ne HSA.out (by rw [HF.out]; first | assumption | decide)); go_wp2_with (first | (refine shl_load HH.out sizeStg (by kernel_rfl) rfl rfl rfl 1 rfl rfl ?_) | (refine shl_load1 HH.out rfl rfl rfl 1 rfl rfl (by decide +kernel) ?_) | (refine shl_store HH.out sizeSnp rfl rfl rfl rfl 0 rfl rfl rfl rfl ?_; clear HH; intro wS HHS; have HH := Lib.hid HHS; clear HHS) | (go_at_call 11; (with_reducible refine (HCk.out _ HH.out.ext).mono ?_); rintro e wC ⟨rfl, eC⟩; have HHn := Lib.hid (HH.out.later eC); clear HH eC; have HH := HHn; clear HHn)); refine ret_cell2 sizeSnp (by kernel_rfl) HH.out rfl rfl rfl 0 rfl rfl rfl ?_; rw [HF.out, HG.out]; exact snout_zero HH.out.ext
    | true =>
      have HF1 := Lib.hid (show V = OE by rw [HV.out]; simp)
      go_enter Tryz.func17, Tryz.ntmps17; go_upto_region 1 with fail; generalize hwH : World.alloc (World.alloc w _) _ = w1; have HH := Lib.hid (Heap.two hwH); clear hwH
      go_upto_region 6 with (first | (refine shl_load HH.out sizeStg (by kernel_rfl) rfl rfl rfl 1 rfl rfl ?_) | (refine shl_load1 HH.out rfl rfl rfl 1 rfl rfl (by decide +kernel) ?_) | (refine shl_store HH.out sizeSnp rfl rfl rfl rfl 0 rfl rfl rfl rfl ?_; clear HH; intro wS HHS; have HH := Lib.hid HHS; clear HHS) | (go_at_call 11; (with_reducible refine (HCk.out _ HH.out.ext).mono ?_); rintro e wC ⟨rfl, eC⟩; have HHn := Lib.hid (HH.out.later eC); clear HH eC; have HH := HHn; clear HHn))
      go_wp2_with (refine shl_load1 HH.out rfl rfl rfl 1 rfl rfl (by decide +kernel) ?_)
      go_simp; generalize hwA : World.alloc _ _ = w5; have HH5 := Lib.hid ((HH).out.allocE hwA); clear hwA HH
      refine (HOv.out w5 _ HH5.out.ext ((HH5.out.boxRd 0 rfl).more (Nat.zero_le _) (Nat.le_refl _))).mono ?_
      intro e w6 hOO
      obtain ⟨v6, rfl, hown6, e6⟩ := HOx.out _ _ _ hOO
      obtain ⟨A6, c6, rfl, _, _, _⟩ := own_form hown6
      have HH6 := Lib.hid (HH5.out.addRow e6 hown6)
      clear HH5 hown6 e6 hOO
      have HH := HH6
      clear HH6
      by_cases c2 : OE = 0
      · subst c2
        go_upto_region 9 with fail; have HHd := Lib.hid HH.out.drew; clear HH; refine wp_region_held_drew (S := Heap w [_]) (by kernel_rfl) (HHd.out.only 3 rfl) (fun hHeld => ?_); generalize hwd : World.drew w6 = wd at *; clear hwd; refine takeL 0 (v := ?_) rfl (by kernel_rfl) (by kernel_rfl) (by kernel_rfl) (fun _ _ _ h => h) (by kernel_rfl) ?_ (by assumption) ?_; rotate_left; (focus (intro w hSw; (try dsimp only at hSw); go_simp <;> with_reducible rfl)); (try simp only [Act.put, List.setIfInBounds_toArray, List.set_cons_zero, List.set_cons_succ]); refine takeL 1 (v := ?_) rfl (by kernel_rfl) (by kernel_rfl) (by kernel_rfl) (fun _ _ _ h => h) (by kernel_rfl) ?_ (by assumption) ?_; rotate_left; (focus (intro w hSw; (try dsimp only at hSw); go_simp <;> with_reducible rfl)); (try simp only [Act.put, List.setIfInBounds_toArray, List.set_cons_zero, List.set_cons_succ]); refine takeL 2 rfl (by kernel_rfl) (by kernel_rfl) (by kernel_rfl) (fun _ _ _ h => h) (by kernel_rfl) (fun wT hST => sh_run_load1 hST rfl rfl 0 rfl rfl (by kernel_rfl)) hHeld ?_; (try simp only [Act.put, List.setIfInBounds_toArray, List.set_cons_zero, List.set_cons_succ]); refine takeL 3 (v := ?_) rfl (by kernel_rfl) (by kernel_rfl) (by kernel_rfl) (fun _ _ _ h => h) (by kernel_rfl) ?_ (by assumption) ?_; rotate_left; (focus (intro w hSw; (try dsimp only at hSw); go_simp <;> with_reducible rfl)); (try simp only [Act.put, List.setIfInBounds_toArray, List.set_cons_zero, List.set_cons_succ]); refine takeL 4 (v := ?_) rfl (by kernel_rfl) (by kernel_rfl) (by kernel_rfl) (fun _ _ _ h => h) (by kernel_rfl) ?_ (by assumption) ?_; rotate_left; (focus (intro w hSw; (try dsimp only at hSw); go_simp <;> with_reducible rfl)); (try simp only [Act.put, List.setIfInBounds_toArray, List.set_cons_zero, List.set_cons_succ]); refine takeL 5 rfl (by kernel_rfl) (by kernel_rfl) (by kernel_rfl) (fun _ _ _ h => h) (by kernel_rfl) (fun wT hST => sh_run_load1 hST rfl rfl 0 rfl rfl (by kernel_rfl)) hHeld ?_; (try simp only [Act.put, List.setIfInBounds_toArray, List.set_cons_zero, List.set_cons_succ]); refine takeL 6 (v := ?_) rfl (by kernel_rfl) (by kernel_rfl) (by kernel_rfl) (fun _ _ _ h => h) (by kernel_rfl) ?_ (by assumption) ?_; rotate_left; (focus (intro w hSw; (try dsimp only at hSw); go_simp <;> with_reducible rfl)); (try simp only [Act.put, List.setIfInBounds_toArray, List.set_cons_zero, List.set_cons_succ]); refine takeL 7 rfl (by kernel_rfl) (by kernel_rfl) (by kernel_rfl) (fun _ _ _ h => h) (by kernel_rfl) (fun wT hST => sh_run_load1 hST rfl rfl 0 rfl rfl (by kernel_rfl)) hHeld ?_; (try simp only [Act.put, List.setIfInBounds_toArray, List.set_cons_zero, List.set_cons_succ]); refine takeL 9 (v := ?_) rfl (by kernel_rfl) (by kernel_rfl) (by kernel_rfl) (fun _ _ _ h => h) (by kernel_rfl) ?_ (by assumption) ?_; rotate_left; (focus (intro w hSw; (try dsimp only at hSw); go_simp <;> with_reducible rfl)); (try simp only [Act.put, List.setIfInBounds_toArray, List.set_cons_zero, List.set_cons_succ]); clear hHeld; refine oneL 8 rfl (by kernel_rfl) (by kernel_rfl) (fun K hK => ?_)
        go_simp; refine (HBc.out _ HHd.out.ext).mono ?_; rintro e w8 ⟨vw8, rfl, hownw8, ew8⟩; obtain ⟨Aw8, cw8, rfl, _, _, _⟩ := own_form hownw8; have HH8 := Lib.hid ((HHd).out.addRow ew8 hownw8); clear HHd hownw8 ew8; go_wp2_with fail
        refine hK.out _ _ (HH8.out.only 4 rfl) (fun hHeld => ?_); clear hK K; (try simp only [Act.put, List.setIfInBounds_toArray, List.set_cons_zero, List.set_cons_succ]); refine takeL 10 (v := ?_) rfl (by kernel_rfl) (by kernel_rfl) (by kernel_rfl) (fun _ _ _ h => h) (by kernel_rfl) ?_ (by assumption) ?_; rotate_left; (focus (intro w hSw; (try dsimp only at hSw); go_simp <;> with_reducible rfl)); (try simp only [Act.put, List.setIfInBounds_toArray, List.set_cons_zero, List.set_cons_succ]); clear hHeld; refine oneL 11 rfl (by kernel_rfl) (by kernel_rfl) (fun K hK => ?_); refine sh_store HH8.out sizeSnp rfl rfl rfl 3 rfl rfl (Nat.le_of_ble_eq_true rfl) rfl ?_; intro w9 hh9; have HH9 := Lib.hid hh9; clear hh9 HH8; refine hK.out _ _ (HH9.out.only 4 rfl) (fun hHeld => ?_); clear hK K; (try simp only [Act.put, List.setIfInBounds_toArray, List.set_cons_zero, List.set_cons_succ]); refine takeL 12 (v := ?_) rfl (by kernel_rfl) (by kernel_rfl) (by kernel_rfl) (fun _ _ _ h => h) (by kernel_rfl) ?_ (by assumption) ?_; rotate_left; (focus (intro w hSw; (try dsimp only at hSw); go_simp <;> with_reducible rfl)); (try simp only [Act.put, List.setIfInBounds_toArray, List.set_cons_zero, List.set_cons_succ]); refine wpAnyH_done (by kernel_rfl) ?_ _; go_wp2_with fail; refine ret_cell2 sizeSnp (by kernel_rfl) HH9.out rfl rfl rfl 3 rfl rfl rfl ?_; rw [HF1.out]; have HG := Lib.hid (HSA.out.trans (if_pos HF1.out)); rw [HG.out]; exact ⟨⟨name, guid, Aw8, bn, cw8, body, none, 0, 0, [], A6, OL.length, c6, OL⟩, rfl, rfl, ⟨HBn.out, (by have := HBm.out; show bn ≤ 200000000; omega), (Rd.of_own (HH9.out.rowAt 0 rfl)).more (Nat.zero_le _) (Nat.le_refl _), rfl, Nat.zero_le _, fun h => absurd rfl h, rfl, (by have := HOm.out; show OL.length ≤ 200000000; omega), (Rd.of_own (HH9.out.rowAt 1 rfl)).more (Nat.zero_le _) (Nat.le_refl _)⟩, HH9.out.ext⟩
      · have d3 : (OE != 0) = true := by simpa using c2
        have HF := Lib.hid (show V ≠ 0 by rw [HF1.out]; exact c2)
        have HG := Lib.hid (nzero_of_ne HSA.out HF.out)
        go_wp2_with (refine shl_store HH.out sizeSnp rfl rfl rfl rfl 2 rfl rfl rfl rfl ?_; clear HH; intro wS HHS; have HH := Lib.hid HHS; clear HHS)
        refine ret_cell2 sizeSnp (by kernel_rfl) HH.out rfl rfl rfl 2 rfl rfl rfl ?_
        rw [HF1.out, HG.out]
        exact snout_zero HH.out.ext
  · have HF := Lib.hid (show V = SE by rw [HV.out, if_pos c1])
    have d3 : (SE != 0) = true := by simpa using c1
    go_enter Tryz.func17, Tryz.ntmps17; go_upto_region 1 with fail; generalize hwH : World.alloc (World.alloc w _) _ = w1; have HH := Lib.hid (Heap.two hwH); clear hwH
    have HG := Lib.hid (nzero_of_ne HSA.out (by rw [HF.out]; first | assumption | decide)); go_wp2_with (first | (refine shl_load HH.out sizeStg (by kernel_rfl) rfl rfl rfl 1 rfl rfl ?_) | (refine shl_load1 HH.out rfl rfl rfl 1 rfl rfl (by decide +kernel) ?_) | (refine shl_store HH.out sizeSnp rfl rfl rfl rfl 0 rfl rfl rfl rfl ?_; clear HH; intro wS HHS; have HH := Lib.hid HHS; clear HHS) | (go_at_call 11; (with_reducible refine (HCk.out _ HH.out.ext).mono ?_); rintro e wC ⟨rfl, eC⟩; have HHn := Lib.hid (HH.out.later eC); clear HH eC; have HH := HHn; clear HHn)); refine ret_cell2 sizeSnp (by kernel_rfl) HH.out rfl rfl rfl 0 rfl rfl rfl ?_; rw [HF.out, HG.out]; exact snout_zero HH.out.ext
end Go.Proofs.YtmecjjmlccdppaaGreatDoor
/- stream.Make: the walk. -/
namespace Go.Proofs.YtmecjjmlccdppaaGreatDoor
open Go.RowKit
set_option linter.unusedVariables false
set_option linter.unusedSimpArgs false

theorem Heap.four {w w' : World} {cs ds es fs : Array Value} {t u x y : TypeId} (hw : (((w.alloc (.cells cs t)).alloc (.cells ds u)).alloc (.cells es x)).alloc (.cells fs y) = w') : Heap w [.box (w.heap.size + 1 + 1 + 1) fs.toList, .box (w.heap.size + 1 + 1) es.toList, .box (w.heap.size + 1) ds.toList, .box w.heap.size cs.toList] w' := by
  have h := (Heap.three (w := w) (cs := cs) (ds := ds) (es := es) (t := t) (u := u) (x := x) rfl).allocE hw
  simpa using h

def mkBase (x : Snp) (full : Bool) : List Blk := if full then [] else x.body
def mkSrc (x : Snp) (full : Bool) : Int := if full then 0 else x.guid
def mk0 (x y : Snp) (full : Bool) : Rec := ⟨1, y.name, mkSrc x full, y.guid, y.oA, y.on, y.oc, y.own, 0, 0, ⟨#[]⟩, 0, 0, 0, 0⟩
def mkP (p : List UInt8 × Su) (r : Rec) : List UInt8 × Su := (p.1 ++ encB r, feed p.2 (encB r))
def mkF (rs : List Rec) : List UInt8 × Su := rs.foldl mkP ([], Su.zero)
theorem mkP_wf : ∀ (rs : List Rec) (p : List UInt8 × Su), p.2.wf → (rs.foldl mkP p).2.wf
  | [], p, h => h
  | r :: rs, p, h => mkP_wf rs (mkP p r) (feed_wf _ _ h)
def mkPre (x y : Snp) (full : Bool) : List UInt8 × Su := mkF (mk0 x y full :: dfL (mkBase x full) y.body)
def mkB (x y : Snp) (full : Bool) : List UInt8 := (mkPre x y full).1 ++ encB (sumRec (mkPre x y full).2)
def mkE (x y : Snp) (full : Bool) : Int :=
  if bkE (mkBase x full) ≠ 0 then bkE (mkBase x full) else if dfE (mkBase x full) y.body ≠ 0 then dfE (mkBase x full) y.body
  else if recE (mk0 x y full) ≠ 0 then recE (mk0 x y full) else if full = false ∧ ¬ x.guid < y.guid then 35 else if 32768 < (mkB x y full).length then 5 else 0
def MakeOut (w : World) (x y : Snp) (full : Bool) (e : Ending) (w' : World) : Prop :=
  ∃ (v : Value) (l : List UInt8), e = .returned (.tuple #[v, .int .i64 (mkE x y full)]) ∧ (mkE x y full = 0 → l = mkB x y full) ∧ w'.ownsRow w.heap.size 5 1 v l.length (bytes l) ∧ Ext w w'

section
variable {P : Program} {w0 w : World} {its : List It} {fn : Func} {R : Ending → World → Prop} {tmps : Array Value}
theorem sh_loadVar1 {t : TypeId} {b p : Nat} {vs : List Value} {v : Value} (H : Heap w0 its w) (hk : rowK P t = some false) (i : Nat) (hi : its[i]? = some (.box b vs)) (hv : vs[p]? = some v) :
    (loadVar t ⟨b, p, none⟩).run P w = .ok v w := by
  have hc := (H.boxAt i hi).cell p v hv
  simp [loadVar, run_isAgg_of hk, load, Sem.run, hc]
/-- two variables are told -/
theorem leave2 {t u : TypeId} {x y b c : Nat} {v z : Value} (kt : rowK P t = some false) (ku : rowK P u = some false) (H : Heap w0 its w) (hres : fn.results = #[.cell x t, .cell y u]) (hx : tmps.getD x undef = .pointer (some ⟨b, 0, none⟩)) (hy : tmps.getD y undef = .pointer (some ⟨c, 0, none⟩)) (i j : Nat) (hi : its[i]? = some (.box b [v])) (hj : its[j]? = some (.box c [z]))
    (hR : R (.returned (.tuple #[v, z])) w) : Leaves P fn tmps R [] .returning w := by
  refine ⟨_, ?_, hR⟩
  have h1 := sh_loadVar1 (p := 0) H kt i hi rfl
  have h2 := sh_loadVar1 (p := 0) H ku j hj rfl
  have hx' : tmps[x]?.getD undef = .pointer (some ⟨b, 0, none⟩) := by simpa using hx
  have hy' : tmps[y]?.getD undef = .pointer (some ⟨c, 0, none⟩) := by simpa using hy
  simp only [results, hres]
  simp [asAddr, hx', hy', h1, h2]
end
section
variable {w0 w : World} {its : List It} {R : Ending → World → Prop} {tmps : Array Value}
abbrev mkDs (be bb : Nat) : List Deferred := [⟨.fn (.func 46) #[], #[.pointer (some ⟨be, 0, none⟩)]⟩, ⟨.fn (.func 45) #[.pointer (some ⟨be, 0, none⟩), .pointer (some ⟨bb, 0, none⟩)], #[]⟩]
/-- Make's end by a panic -/
theorem mk_panic {be bb i j : Nat} {x q : Int} {v : Value} (H : Heap w0 its w) (hij : i ≠ j) (hi : its[i]? = some (.box be [.int .i64 x])) (hj : its[j]? = some (.box bb [v])) (hq : ¬ q = 0)
    (h6 : tmps.getD 6 undef = .pointer (some ⟨bb, 0, none⟩)) (h7 : tmps.getD 7 undef = .pointer (some ⟨be, 0, none⟩)) (hR : ∀ w', Ext w0 w' → R (.returned (.tuple #[.slice none 0 0, .int .i64 q])) w') :
    Leaves Tryz.prog Tryz.f20 tmps R (mkDs be bb) (.panicking [{ v := faultV 0 q, recovered := false }]) w := by
  refine leaves_cons (f := 46) (args := #[.pointer (some ⟨be, 0, none⟩)]) (by simp) (by simp [go_sem]) ?_
  refine (caught_panicking x q [] (Lib.hid H) hi).mono ?_
  rintro e u' w'' ⟨rfl, rfl, H2⟩
  simp only [settle, List.dropWhile]
  refine leaves_cons (f := 45) (args := #[.pointer (some ⟨be, 0, none⟩), .pointer (some ⟨bb, 0, none⟩)]) (by simp) (by simp [go_sem]) ?_
  refine (mk1_ok (Lib.hid H2) (at_set hi) ((List.getElem?_set_ne hij).trans hj)).mono ?_
  rintro e u' w3 ⟨rfl, rfl, H3⟩
  simp only [hq, if_false, settle] at H3 ⊢
  refine leave2 (by kernel_rfl) (by kernel_rfl) H3 rfl h6 h7 j i (at_set ((List.getElem?_set_ne hij).trans hj)) ((List.getElem?_set_ne (Ne.symm hij)).trans (at_set hi)) (hR _ H3.ext)
/-- Make's end -/
theorem mk_idle {be bb i j : Nat} {v : Value} (H : Heap w0 its w) (hi : its[i]? = some (.box be [.int .i64 0])) (hj : its[j]? = some (.box bb [v]))
    (h6 : tmps.getD 6 undef = .pointer (some ⟨bb, 0, none⟩)) (h7 : tmps.getD 7 undef = .pointer (some ⟨be, 0, none⟩)) (hR : ∀ w', Heap w0 its w' → R (.returned (.tuple #[v, .int .i64 0])) w') :
    Leaves Tryz.prog Tryz.f20 tmps R (mkDs be bb) .returning w := by
  refine leaves_cons (f := 46) (args := #[.pointer (some ⟨be, 0, none⟩)]) (by simp) (by simp [go_sem]) ?_
  refine (caught_idle (b := be) (Lib.hid H)).mono ?_
  rintro e u' w'' ⟨rfl, rfl, H2⟩
  simp only [settle]
  refine leaves_cons (f := 45) (args := #[.pointer (some ⟨be, 0, none⟩), .pointer (some ⟨bb, 0, none⟩)]) (by simp) (by simp [go_sem]) ?_
  refine (mk1_ok (Lib.hid H2) hi hj).mono ?_
  rintro e u' w3 ⟨rfl, rfl, H3⟩
  simp only [if_true, settle] at H3 ⊢
  refine leave2 (by kernel_rfl) (by kernel_rfl) H3 rfl h6 h7 j i hj hi (hR _ H3)
end
/-- a region that does not panic: what the end would be like behind a panic is not asked (deferred calls ask for the frame) -/
def noP (Q : Exit → Act → World → Prop) : Exit → Act → World → Prop
  | .normal, a, w => Q .normal a w
  | _, _, _ => False
theorem wp_noP {P : Program} {c : Code} {Q : Exit → Act → World → Prop} {a : Act} {w : World} (h : c.wp P (noP Q) a w) : c.wp P Q a w :=
  Code.wp_mono (fun e a w h => by cases e <;> first | exact h | exact h.elim) h
structure Snp.ok (w : World) (x : Snp) : Prop where
  rd : x.rd w
  bodyM : x.bn ≤ 100000000
  bodyC : x.bn ≤ x.bc
  bodyW : ∀ b ∈ x.body, b.wf
  ownM : x.on ≤ 100000000
  name : x.name.size ≤ 100000000
  guid : -9223372036854775808 ≤ x.guid ∧ x.guid ≤ 9223372036854775807
  props : ∀ p ∈ x.own, p.name.size ≤ 9223372036854775807 ∧ p.value.size ≤ 9223372036854775807
theorem mkout_bad {w w' : World} {x y : Snp} {full : Bool} {E : Int} (h : mkE x y full = E) (hE : ¬ E = 0) (e : Ext w w') : MakeOut w x y full (.returned (.tuple #[.slice none 0 0, .int .i64 E])) w' :=
  ⟨_, [], by rw [h], fun h0 => absurd (h.symm.trans h0) hE, World.ownsRow_nil _ _ _ _, e⟩
set_option maxRecDepth 100000 in
set_option maxHeartbeats 8000000 in
theorem make_any (w : World) (x y : Snp) (full : Bool) (hx : x.ok w) (hy : y.ok w) (hdl : ∀ r ∈ dfL (mkBase x full) y.body, recE r = 0 ∧ r.wf ∧ (sumR r).wf ∧ r.oA = none ∧ r.on = 0) (hdn : (dfL (mkBase x full) y.body).length ≤ 100000000) (hm0 : (mk0 x y full).wf) :
    Calls Tryz.prog 20 #[.agg x.cells.toArray, .agg y.cells.toArray, .bool full] w (MakeOut w x y full) := by
  have hmf : ∀ (fn : Fn) (first cap : Array Value) (w : World), (Instr.makeFunc fn first cap).run Tryz.prog w = .ok (.func fn first cap) w := fun _ _ _ _ => rfl
  generalize hO : MakeOut w x y full = OO
  have HO := Lib.hid hO.symm
  clear hO
  obtain ⟨bA, bn, bc, src, hbn, hbc, hbR, hsrc, hnc, hnM, hbw⟩ : ∃ (bA : Option Addr) (bn bc : Nat) (src : Int), Value.slice bA bn bc = (if full then .slice none 0 0 else .slice x.bA x.bn x.bc) ∧ bn = (mkBase x full).length ∧ Rd w 0 w.heap.size bA (blks (mkBase x full)) ∧ src = mkSrc x full ∧ bn ≤ bc ∧ bn ≤ 100000000 ∧ ∀ b ∈ mkBase x full, b.wf := by
    cases full
    · exact ⟨x.bA, x.bn, x.bc, x.guid, rfl, hx.rd.bodyN, hx.rd.bodyR, rfl, hx.bodyC, hx.bodyM, hx.bodyW⟩
    · exact ⟨none, 0, 0, 0, rfl, rfl, fun h => absurd rfl h, rfl, Nat.le_refl _, Nat.zero_le _, fun b hb => by cases hb⟩
  obtain ⟨E1, hE1x⟩ : ∃ E, E = bkE (mkBase x full) := ⟨_, rfl⟩
  obtain ⟨E2, hE2x⟩ : ∃ E, E = dfE (mkBase x full) y.body := ⟨_, rfl⟩
  obtain ⟨dl, hdlx⟩ : ∃ l, l = dfL (mkBase x full) y.body := ⟨_, rfl⟩
  have HC1 := Lib.hid (fun W (hW : Ext w W) => bcheck_any W bA bn bc (mkBase x full) hbc (by omega) (Rd.at hbR hW (Nat.le_refl _)) hbw)
  have HD := Lib.hid (fun W (hW : Ext w W) => diff_any W bA y.bA bn y.bn bc y.bc (mkBase x full) y.body hbc hy.rd.bodyN hnc hy.bodyC hnM hy.bodyM (Rd.at hbR hW (Nat.le_refl _)) (Rd.at hy.rd.bodyR hW (Nat.le_refl _)) hbw hy.bodyW)
  rw [← hE1x] at HC1
  have HDx := Lib.hid (fun W e w' (h : DiffOut W (mkBase x full) y.body e w') => show ∃ v, e = .returned (.tuple #[v, .int .i64 E2]) ∧ w'.ownsRow W.heap.size 27 12 v dl.length (recs dl) ∧ Ext W w' from by rw [hE2x, hdlx]; exact h)
  generalize DiffOut = DO at *
  rw [← hdlx] at hdl hdn
  obtain ⟨r0, hr0⟩ : ∃ r, r = mk0 x y full := ⟨_, rfl⟩
  have hc0 : r0.cells = [.int .i64 1, .string y.name, .int .i64 src, .int .i64 y.guid, .slice y.oA y.on y.oc, .int .i64 0, .int .i64 0, .string ⟨#[]⟩, .int .u64 0, .int .u64 0, .int .u64 0, .int .u64 0] := by rw [hr0, hsrc]; rfl
  have hr0R : Rd w 0 w.heap.size r0.oA (prps r0.own) := by rw [hr0]; exact hy.rd.ownR
  have hr0N : r0.on ≤ 100000000 := by rw [hr0]; exact hy.ownM
  have hr0S : (sumR r0).wf := by rw [hr0]; simp [Su.wf, sumR, mk0]
  rw [← hr0] at hm0
  have HR0 := Lib.hid (⟨hr0, hc0, hr0R, hr0N, hr0S, hm0⟩ : r0 = mk0 x y full ∧ r0.cells = _ ∧ _ ∧ _ ∧ _ ∧ _)
  clear hr0 hc0 hr0R hr0N hr0S hm0
  have HEb := Lib.hid hE1x
  have HEd := Lib.hid hE2x
  have HDl := Lib.hid hdlx
  have HBA := Lib.hid hbn
  have HBN := Lib.hid hbc
  have HBR := Lib.hid hbR
  have HSR := Lib.hid hsrc
  clear hbn hbc hbR hsrc hE1x hE2x hdlx
  simp only [Snp.cells]
  go_enter_defers Tryz.func20, Tryz.ntmps20
  go_upto_region 1 with fail
  generalize hwH : World.alloc (World.alloc (World.alloc (World.alloc w _) _) _) _ = w1
  have HH := Lib.hid (Heap.four hwH)
  clear hwH
  have f2 := (HH.out.boxAt 3 rfl).cell 2 _ rfl
  have f1 := (HH.out.boxAt 3 rfl).cell 1 _ rfl
  go_quiet (fail)
  clear f1 f2
  have HH1 := Lib.hid (HH.out.later (Ext.drewN (Ext.refl w1) nq))
  clear HH; have HH := HH1; clear HH1
  generalize World.drewN w1 nq = w2 at *
  have hfs : full = true ∨ full = false := by cases full <;> simp
  go_upto_if 19 with fail
  go_cut [8, 9] from 8 to 9 (fun s1 s2 wx => s1 = .slice bA bn bc ∧ s2 = .int .i64 src ∧ w2 = wx)
  case first =>
    rcases hfs with rfl | rfl
    · go_wp2_with fail
      go_meet
      exact ⟨HBA.out.symm, by rw [HSR.out]; rfl, rfl⟩
    · go_wp2_with fail
      go_meet
      exact ⟨HBA.out.symm, by rw [HSR.out]; rfl, rfl⟩
  obtain ⟨rfl, rfl, rfl⟩ := hcut
  go_wp2_with fail
  refine (HC1.out w2 HH.out.ext).mono ?_
  rintro e w3 ⟨rfl, e3⟩
  have HH3 := Lib.hid (HH.out.later e3)
  clear HH; have HH := HH3; clear HH3
  clear HC1
  by_cases hE1 : E1 = 0
  · have hb1 : (E1 != 0) = false := by simp [hE1]
    go_wp2_with (first | (refine shl_load HH.out sizeSnp (by kernel_rfl) rfl rfl rfl 3 rfl rfl ?_) | (refine shl_load1 HH.out rfl rfl rfl 2 rfl rfl (by decide +kernel) ?_))
    refine (HD.out w3 HH.out.ext).mono ?_
    intro e w4 hDO
    obtain ⟨v4, rfl, hown4, e4⟩ := HDx.out _ _ _ hDO
    clear hDO HD HDx
    obtain ⟨A4, c4, rfl, k41, k42, _⟩ := own_form hown4
    have HH4 := Lib.hid (HH.out.addRow e4 hown4)
    clear HH hown4 e4
    have HH := HH4
    clear HH4
    by_cases hE2 : E2 = 0
    · have hb2 : (E2 != 0) = false := by simp [hE2]
      go_upto_region 13 with (first | (refine shl_load1 HH.out rfl rfl rfl 1 rfl rfl (by decide +kernel) ?_) | (refine shl_store1 HH.out rfl rfl rfl rfl 1 rfl rfl rfl (by kernel_rfl) ?_; clear HH; intro wS HHS; have HH := Lib.hid HHS; clear HHS))
      generalize hwA : World.alloc _ _ = w5
      have HH5 := Lib.hid ((HH.out.allocE hwA).row0 (e := 5) (size := 1))
      clear HH hwA
      have HH := HH5
      clear HH5
      go_wp2_with (refine shl_load1 HH.out rfl rfl rfl 5 rfl rfl (by decide +kernel) ?_)
      obtain ⟨hr0, hc0, hr0R, hr0N, hr0S, hm0⟩ := HR0.out
      by_cases hE3 : recE r0 = 0
      · have hP := wput_ok wS.heap.size 1 0 (by decide) Su.zero (.slice none 0 0) 0 [] HH.out rfl rfl r0 (Rd.at hr0R HH.out.ext (Nat.le_refl _)) hm0 hr0N hr0S hE3 (by omega)
        rw [hc0] at hP
        refine hP.mono ?_
        clear hP
        rintro e w6 ⟨rfl, v6, H6⟩
        obtain ⟨p, hp⟩ : ∃ p, p = mkF [r0] := ⟨_, rfl⟩
        have HP := Lib.hid hp
        have HH6 := Lib.hid (show Heap w (.row 5 1 v6 p.1.length (bytes p.1) :: .box wS.heap.size (v6 :: p.2.cells) :: _) w6 from by rw [hp]; simpa [mkF, mkP] using H6)
        clear H6 HH hp
        have HH := HH6
        clear HH6
        go_upto_region 14 with fail
        have hF1 := (HH.out.boxAt 6 rfl).cell 1 _ rfl
        have hG1 := (HH.out.boxAt 5 rfl).cell 1 _ rfl
        by_cases hG : full = false ∧ ¬ x.guid < y.guid
        · obtain ⟨hf0, hg0⟩ := hG
          subst hf0
          have hl : decide (x.guid < y.guid) = false := by simp [hg0]
          go_wp2_with fail
          refine (need_false w6 0 35).mono ?_
          rintro e w7 ⟨rfl, rfl⟩
          refine mk_panic (i := 3) (j := 4) HH.out (by decide) rfl rfl (by decide) rfl rfl ?_
          intro w9 e9
          rw [HO.out]
          exact mkout_bad (by unfold mkE; rw [← HEb.out, if_neg (by simp [hE1]), ← HEd.out, if_neg (by simp [hE2]), ← hr0, if_neg (by simp [hE3]), if_pos ⟨rfl, by omega⟩]) (by decide) e9
        go_cut [56] from 48 to 56 (fun s wx => s = .tuple #[] ∧ w6 = wx)
        case first =>
          rcases hfs with rfl | rfl
          · go_wp2_with fail
            refine (need_true w6 0 35).mono ?_
            rintro e w7 ⟨rfl, rfl⟩
            go_wp2_with fail
            go_meet
            exact ⟨rfl, rfl⟩
          · have hl : decide (x.guid < y.guid) = true := by simpa using hG
            go_wp2_with fail
            refine (need_true w6 0 35).mono ?_
            rintro e w7 ⟨rfl, rfl⟩
            go_wp2_with fail
            go_meet
            exact ⟨rfl, rfl⟩
        obtain ⟨rfl, rfl⟩ := hcut
        clear hF1 hG1
        obtain ⟨T, HT, t0, t1, t2⟩ : ∃ T, Heap w (.row 5 1 v6 p.1.length (bytes p.1) :: .box wS.heap.size (v6 :: p.2.cells) :: T) w6 ∧ T[0]? = some (.row 27 12 (.slice A4 dl.length c4) dl.length (recs dl)) ∧ T[1]? = some (.box (w.heap.size + 1 + 1 + 1) [.int .i64 0]) ∧ T[2]? = some (.box (w.heap.size + 1 + 1) [.slice none 0 0]) :=
          ⟨_, HH.out, rfl, rfl, rfl⟩
        have HT0 := Lib.hid t0
        have HT1 := Lib.hid t1
        have HT2 := Lib.hid t2
        have HHT := Lib.hid HT
        clear HH HT t0 t1 t2
        have hpl : p.1.length ≤ 1000 := by rw [HP.out]; simpa [mkF, mkP] using encB_len r0
        go_upto_region 16 with fail
        obtain ⟨bw, hbw⟩ : ∃ b, b = wS.heap.size := ⟨_, rfl⟩
        rw [← hbw] at HHT ⊢
        clear hbw
        obtain ⟨m, hm⟩ : ∃ m, m = dl.length := ⟨_, rfl⟩
        rw [← hm] at HT0 hdn k41 ⊢
        have HM := Lib.hid hm
        clear hm
        go_loopw [59] (fun i wr => ∃ (k : Nat) (v : Value) (q : List UInt8 × Su), k ≤ m ∧ i = .int .i64 k ∧ q.1.length ≤ 1000 + 1000 * k ∧ Hid (q = (dl.take k).foldl mkP p) ∧ Hid (Heap w (.row 5 1 v q.1.length (bytes q.1) :: .box bw (v :: q.2.cells) :: T) wr)) (fun i _ => m - (intOf i).toNat)
        case atStart => exact ⟨0, v6, p, Nat.zero_le _, rfl, hpl, Lib.hid rfl, HHT⟩
        case round =>
          obtain ⟨k, v, q, hk, rfl, hql, HQ, HH⟩ := hrel
          by_cases hlt : k < m
          · have hl : k < dl.length := by rw [← HM.out]; exact hlt
            obtain ⟨g, o, hA4, _, _, G⟩ := rd_flat (cells := Rec.cells) (size := 12) (fun _ => rfl) (by omega) (Rd.of_own (HH.out.rowAt 2 HT0.out)) hl
            obtain ⟨hr1, hr2, hr3, hr4, hr5⟩ := hdl dl[k] (List.getElem_mem _)
            have hqn : ((dl.take (k + 1)).foldl mkP p) = mkP q dl[k] := by rw [HQ.out, List.take_succ_eq_append_getElem hl, List.foldl_append]; rfl
            have HQN := hqn
            clear hqn
            generalize dl[k] = r at *
            have hP := fun (its : List It) (W : World) (HW : Heap w its W) (i j : Nat) (hij : ¬ i = j) (h1 : its[i]? = some (.box bw (v :: q.2.cells))) (h2 : its[j]? = some (.row 5 1 v q.1.length (bytes q.1))) => wput_ok bw i j hij q.2 v q.1.length q.1 HW h1 h2 r (by intro h; exact absurd (by have := hr2.own; rw [hr5] at this; rw [List.length_eq_zero_iff.1 this.symm]; rfl) h) hr2 (by omega) hr3 hr1 (by omega)
            obtain ⟨eb, heb⟩ : ∃ b, b = encB r := ⟨_, rfl⟩
            have hebl : eb.length ≤ 1000 := by rw [heb]; exact encB_len r
            rw [← heb] at hP
            rw [show mkP q r = (q.1 ++ eb, feed q.2 eb) by rw [heb]; rfl] at HQN
            have HQN := Lib.hid HQN
            clear heb hr1 hr2 hr3 hr4 hr5 HQ
            obtain ⟨kk, nm, f, gg, oA, on, oc, own, ii, cc, dd, s0, s1, s2, s3⟩ := r
            have c0 := G 0 _ rfl
            have c1 := G 1 _ rfl
            have c2 := G 2 _ rfl
            have c3 := G 3 _ rfl
            have c4' := G 4 _ rfl
            have c5 := G 5 _ rfl
            have c6 := G 6 _ rfl
            have c7 := G 7 _ rfl
            have c8 := G 8 _ rfl
            have c9 := G 9 _ rfl
            have c10 := G 10 _ rfl
            have c11 := G 11 _ rfl
            simp only [Nat.add_zero] at c0
            subst hA4
            clear G
            simp only [Rec.cells] at hP
            go_upto_region 18 with fail
            generalize hwA : World.alloc _ _ = wA
            have HHA := Lib.hid (HH.out.allocE hwA)
            clear hwA HH
            have HH := HHA
            clear HHA
            clear c0 c1 c2 c3 c4' c5 c6 c7 c8 c9 c10 c11
            go_wp2_with (refine shl_load HH.out sizeRec (by kernel_rfl) rfl rfl rfl 0 rfl rfl ?_)
            refine (hP _ _ HH.out 2 1 (by decide) rfl rfl).mono ?_
            clear hP
            rintro e w7 ⟨rfl, v7, H7⟩
            have HH7 := Lib.hid (show Heap w (.row 5 1 v7 (q.1.length + eb.length) (bytes (q.1 ++ eb)) :: .box bw (v7 :: (feed q.2 eb).cells) :: T) w7 from H7.tail)
            clear H7 HH
            go_wp2_with fail
            go_roundw
            case rel => exact ⟨k + 1, v7, (q.1 ++ eb, feed q.2 eb), by omega, by go_num, by rw [List.length_append]; omega, Lib.hid HQN.out.symm, Lib.hid (by have := HH7.out; rw [← List.length_append] at this; exact this)⟩
            case measure => (first | (simp [intOf]; done) | (simp [intOf]; omega))
          · obtain rfl : k = m := by omega
            have hq : q = mkPre x y full := by
              unfold mkPre
              rw [HQ.out, ← hr0, ← HDl.out, HP.out, List.take_of_length_le (by rw [← HM.out]; exact Nat.le_refl _)]
              rfl
            have HQ2 := Lib.hid hq
            clear hq HQ
            go_upto_region 20 with fail
            obtain ⟨qo, qa, qb, qc, qd⟩ := q
            dsimp only [Su.cells] at HH
            go_wp2_with (refine shl_load HH.out sizeSu (by kernel_rfl) rfl rfl rfl 1 rfl rfl ?_)
            have hsw : Su.wf ⟨qa, qb, qc, qd⟩ := by
              have h := mkP_wf (mk0 x y full :: dfL (mkBase x full) y.body) ([], Su.zero) Su.zero_wf
              have h2 := HQ2.out
              rw [show (mk0 x y full :: dfL (mkBase x full) y.body).foldl mkP ([], Su.zero) = mkPre x y full from rfl, ← h2] at h
              exact h
            have hPl := wput_ok bw 1 0 (by decide) ⟨qa, qb, qc, qd⟩ v qo.length qo HH.out rfl rfl (sumRec ⟨qa, qb, qc, qd⟩) (fun h => absurd rfl h) (sumRec_wf _) (Nat.zero_le _) hsw (sumRec_ok _) (by omega)
            have hebl := encB_len (sumRec ⟨qa, qb, qc, qd⟩)
            have hmb : qo ++ encB (sumRec ⟨qa, qb, qc, qd⟩) = mkB x y full := by unfold mkB; rw [← HQ2.out]
            generalize encB (sumRec ⟨qa, qb, qc, qd⟩) = eb at *
            simp only [sumRec, Rec.cells] at hPl
            refine hPl.mono ?_
            clear hPl
            rintro e w7 ⟨rfl, v7, H7⟩
            have HH7 := Lib.hid (show Heap w (.row 5 1 v7 (qo.length + eb.length) (bytes (qo ++ eb)) :: .box bw (v7 :: (feed ⟨qa, qb, qc, qd⟩ eb).cells) :: T) w7 from H7)
            clear H7 HH
            have HH := HH7
            clear HH7
            have hlen : (mkB x y full).length = qo.length + eb.length := by rw [← hmb, List.length_append]
            obtain ⟨A7, c7, rfl, k71, k72, _⟩ := own_form (HH.out.rowAt 0 rfl)
            go_upto_region 21 with fail
            go_wp2_with (refine shl_load1 HH.out rfl rfl rfl 1 rfl rfl (by decide +kernel) ?_)
            by_cases hL : qo.length + eb.length ≤ 32768
            · have hE : mkE x y full = 0 := by unfold mkE; rw [← HEb.out, if_neg (by simp [hE1]), ← HEd.out, if_neg (by simp [hE2]), ← hr0, if_neg (by simp [hE3]), if_neg (fun h => hG ⟨h.1, by have := h.2; omega⟩), if_neg (by omega)]
              rw [show decide ((qo.length : Int) + (eb.length : Int) ≤ 32768) = true by simp; omega]
              refine (need_true w7 0 5).mono ?_
              rintro e w8 ⟨rfl, rfl⟩
              go_upto_region 22 with fail
              go_wp2_with (first | (refine shl_load1 HH.out rfl rfl rfl 1 rfl rfl (by decide +kernel) ?_) | (refine shl_store1 HH.out rfl rfl rfl rfl (4) (at2 HT2.out) rfl rfl (by kernel_rfl) ?_; clear HH; intro wS HHS; have HH := Lib.hid HHS; clear HHS) | (refine shl_store1 HH.out rfl rfl rfl rfl (3) (at_other (at2 HT1.out) (by decide) _) rfl rfl (by kernel_rfl) ?_; clear HH; intro wS HHS; have HH := Lib.hid HHS; clear HHS))
              refine mk_idle (i := 3) (j := 4) HH.out (at_set2 (at2 HT1.out) (by decide) _ _) (at_other (at_set (at2 HT2.out)) (by decide) _) rfl rfl ?_
              intro w9 H9
              rw [HO.out]
              refine ⟨_, qo ++ eb, by rw [hE], fun _ => hmb, ?_, H9.ext⟩
              rw [List.length_append]
              exact H9.rowAt 0 rfl
            · have hE : mkE x y full = 5 := by unfold mkE; rw [← HEb.out, if_neg (by simp [hE1]), ← HEd.out, if_neg (by simp [hE2]), ← hr0, if_neg (by simp [hE3]), if_neg (fun h => hG ⟨h.1, by have := h.2; omega⟩), if_pos (by omega)]
              rw [show decide ((qo.length : Int) + (eb.length : Int) ≤ 32768) = false by simp; omega]
              refine (need_false w7 0 5).mono ?_
              rintro e w8 ⟨rfl, rfl⟩
              refine mk_panic (i := 3) (j := 4) HH.out (by decide) (at2 HT1.out) (at2 HT2.out) (by decide) rfl rfl ?_
              intro w9 e9
              rw [HO.out]
              exact mkout_bad hE (by decide) e9
      · have hP := wput_bad wS.heap.size HH.out r0 (Rd.at hr0R HH.out.ext (Nat.le_refl _)) hm0 hr0N hr0S hE3
        rw [hc0] at hP
        refine hP.mono ?_
        rintro e w6 ⟨rfl, H6⟩
        refine mk_panic (i := 3) (j := 4) H6 (by decide) rfl rfl hE3 rfl rfl ?_
        intro w9 e9
        rw [HO.out]
        exact mkout_bad (by unfold mkE; rw [← HEb.out, if_neg (by simp [hE1]), ← HEd.out, if_neg (by simp [hE2]), ← hr0, if_pos hE3]) hE3 e9
    · have hb2 : (E2 != 0) = true := by simp [hE2]
      go_upto_region 9 with (first | (refine shl_load1 HH.out rfl rfl rfl 1 rfl rfl (by decide +kernel) ?_) | (refine shl_store1 HH.out rfl rfl rfl rfl 1 rfl rfl rfl (by kernel_rfl) ?_; clear HH; intro wS HHS; have HH := Lib.hid HHS; clear HHS))
      have HHd := Lib.hid HH.out.drew
      clear HH
      refine wp_noP ?_
      refine wp_region_held_drew (S := Heap w [_]) (by kernel_rfl) (HHd.out.only 1 rfl) (fun hHeld => ?_)
      generalize hwd : World.drew wS = wd at *
      clear hwd
      refine takeL 0 rfl (by kernel_rfl) (by kernel_rfl) (by kernel_rfl) (fun _ _ _ h => h) (by kernel_rfl) (fun wT hST => sh_run_load1 hST rfl rfl 0 rfl rfl (by kernel_rfl)) hHeld ?_; (try simp only [Act.put, List.setIfInBounds_toArray, List.set_cons_zero, List.set_cons_succ])
      refine oneL 1 rfl (by kernel_rfl) (by kernel_rfl) (fun K hK => ?_)
      refine sh_store1 HHd.out rfl rfl rfl 2 rfl (Nat.le_of_ble_eq_true rfl) rfl (by kernel_rfl) ?_
      intro w7 hh7
      have HH7 := Lib.hid hh7
      clear hh7 HHd
      refine hK.out _ _ ((HH7).out.only 1 rfl) (fun hHeld => ?_); clear hK K; (try simp only [Act.put, List.setIfInBounds_toArray, List.set_cons_zero, List.set_cons_succ]); clear hHeld
      refine oneL 2 rfl (by kernel_rfl) (by kernel_rfl) (fun K hK => ?_)
      refine sh_store1 HH7.out rfl rfl rfl 1 rfl (Nat.le_of_ble_eq_true rfl) rfl (by kernel_rfl) ?_
      intro w8 hh8
      have HH8 := Lib.hid hh8
      clear hh8 HH7
      refine hK.out _ _ ((HH8).out.only 1 rfl) (fun hHeld => ?_); clear hK K; (try simp only [Act.put, List.setIfInBounds_toArray, List.set_cons_zero, List.set_cons_succ]); clear hHeld
      refine wpAnyH_done (by kernel_rfl) ?_ _
      simp only [noP]
      go_wp2_with fail
      refine leave2 (by kernel_rfl) (by kernel_rfl) HH8.out rfl rfl rfl 2 1 rfl rfl ?_
      rw [HO.out]
      exact mkout_bad (by unfold mkE; rw [← HEb.out, if_neg (by simp [hE1]), ← HEd.out, if_pos hE2]) hE2 HH8.out.ext
  · have hb1 : (E1 != 0) = true := by simp [hE1]
    go_wp2_with (first | (refine shl_store1 HH.out rfl rfl rfl rfl 0 rfl rfl rfl (by kernel_rfl) ?_; clear HH; intro wS HHS; have HH := Lib.hid HHS; clear HHS) | (refine shl_store1 HH.out rfl rfl rfl rfl 1 rfl rfl rfl (by kernel_rfl) ?_; clear HH; intro wS HHS; have HH := Lib.hid HHS; clear HHS))
    refine leave2 (by kernel_rfl) (by kernel_rfl) HH.out rfl rfl rfl 1 0 rfl rfl ?_
    rw [HO.out]
    exact mkout_bad (by unfold mkE; rw [← HEb.out, if_pos hE1]) hE1 HH.out.ext
end Go.Proofs.YtmecjjmlccdppaaGreatDoor
/- stream.Records' deferred function where nothing panics, and Records' end: the walks. -/
namespace Go.Proofs.YtmecjjmlccdppaaGreatDoor
open Go.RowKit
set_option linter.unusedVariables false
set_option linter.unusedSimpArgs false

set_option maxRecDepth 100000 in
theorem rc1_idle {w0 w : World} {its : List It} {b c d : Nat} (HH : Hid (Heap w0 its w)) :
    CallsD Tryz.prog 49 #[.pointer (some ⟨b, 0, none⟩), .pointer (some ⟨c, 0, none⟩), .pointer (some ⟨d, 0, none⟩)] .returning w fun e u' w' =>
      e = .returned (.tuple #[]) ∧ u' = .returning ∧ Heap w0 its w' := by
  refine callsD_of_wpS Tryz.func49 rfl fun c₀ cs hu => ?_
  simp only [Tryz.ntmps49, List.size_toArray, List.length_cons, List.length_nil, Nat.reduceAdd, Nat.reduceSub, Array.replicate_succ, Array.replicate_zero, List.push_toArray, List.append_toArray, List.nil_append, List.cons_append]
  apply wpS_seq
  apply ws_region (l := [0,1,2,3,4,5,6,7]) rfl
  refine ws_rec0 (w' := w) rfl (by kernel_rfl) (by rfl) (by simp only [recoverD, hu]) ?_
  simp only [Act.put]
  refine ws_val (w' := w) (v := .tuple #[.agg #[.int .i64 0, .int .i64 0], .bool false]) rfl (by kernel_rfl) (by kernel_rfl) ?_
  refine ws_val (w' := w) (v := .tuple #[.agg #[.int .i64 0, .int .i64 0], .bool false]) rfl (by kernel_rfl) (by kernel_rfl) ?_
  refine ws_val (w' := w) (v := .agg #[.int .i64 0, .int .i64 0]) rfl (by kernel_rfl) (by kernel_rfl) ?_
  refine ws_val (w' := w) (v := .bool false) rfl (by kernel_rfl) (by kernel_rfl) ?_
  refine ws_val (w' := w.alloc (.cells #[.int .i64 0, .int .i64 0] 104)) (v := .pointer (some ⟨w.heap.size, 0, none⟩)) rfl (by kernel_rfl) (by simp [go_sem]) ?_
  refine ws_skip (w' := w.alloc (.cells #[.int .i64 0, .int .i64 0] 104)) rfl (by kernel_rfl) (by simp [go_sem]) ?_
  refine ws_val (w' := w.alloc (.cells #[.int .i64 0, .int .i64 0] 104)) (v := .bool false) rfl (by kernel_rfl) (by kernel_rfl) ?_
  refine ws_end ?_
  simp only [Exit.thenS]
  refine wpS_of_wp ?_
  generalize hwA : World.alloc w _ = w1
  have HH1 := Lib.hid (HH.out.allocE hwA).tail
  clear hwA
  clear HH; have HH := HH1; clear HH1
  go_wp2_with fail
  refine ⟨rfl, .returning, ?_, .tuple #[], by kernel_rfl, rfl, rfl, HH.out⟩
  cases c₀
  simp_all
section
variable {P : Program} {w0 w : World} {its : List It} {fn : Func} {R : Ending → World → Prop} {tmps : Array Value}
/-- three variables are told -/
theorem leave3 {t u s : TypeId} {x y z b c d : Nat} {v1 v2 v3 : Value} (kt : rowK P t = some false) (ku : rowK P u = some false) (ks : rowK P s = some false) (H : Heap w0 its w) (hres : fn.results = #[.cell x t, .cell y u, .cell z s]) (hx : tmps.getD x undef = .pointer (some ⟨b, 0, none⟩)) (hy : tmps.getD y undef = .pointer (some ⟨c, 0, none⟩)) (hz : tmps.getD z undef = .pointer (some ⟨d, 0, none⟩)) (i j k : Nat) (hi : its[i]? = some (.box b [v1])) (hj : its[j]? = some (.box c [v2])) (hk : its[k]? = some (.box d [v3]))
    (hR : R (.returned (.tuple #[v1, v2, v3])) w) : Leaves P fn tmps R [] .returning w := by
  refine ⟨_, ?_, hR⟩
  have h1 := sh_loadVar1 (p := 0) H kt i hi rfl
  have h2 := sh_loadVar1 (p := 0) H ku j hj rfl
  have h3 := sh_loadVar1 (p := 0) H ks k hk rfl
  have hx' : tmps[x]?.getD undef = .pointer (some ⟨b, 0, none⟩) := by simpa using hx
  have hy' : tmps[y]?.getD undef = .pointer (some ⟨c, 0, none⟩) := by simpa using hy
  have hz' : tmps[z]?.getD undef = .pointer (some ⟨d, 0, none⟩) := by simpa using hz
  simp only [results, hres]
  simp [asAddr, hx', hy', hz', h1, h2, h3]
end
end Go.Proofs.YtmecjjmlccdppaaGreatDoor
