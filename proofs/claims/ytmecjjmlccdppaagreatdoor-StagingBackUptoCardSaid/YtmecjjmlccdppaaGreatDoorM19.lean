/- The texts Sgo in one file. -/
import Derived.Test.YtmecjjmlccdppaaGreatDoorM18
/- staging.Start: the walk. -/
namespace Go.Proofs.YtmecjjmlccdppaaGreatDoor
open Go.RowKit
set_option linter.unusedVariables false
set_option linter.unusedSimpArgs false

def Rec.bare (x : Rec) : Rec := { x with oA := none, on := 0, oc := 0 }
def Stg.bare (x : Stg) : Stg := { x with bA := none, bn := 0, bc := 0, beg := x.beg.bare }
def zeroR' : Rec := ⟨0, ⟨#[]⟩, 0, 0, none, 0, 0, [], 0, 0, ⟨#[]⟩, 0, 0, 0, 0⟩
def zeroS : Stg := ⟨⟨#[]⟩, zeroR', none, 0, 0, [], 0, 0, Su.zero, false⟩
theorem same_bare (x y : Stg) (h : x.bare = y.bare) : sameS x y = true := by
  obtain ⟨into, ⟨kind, name, frm, guid, oA, on, oc, own, index, count, data, s0, s1, s2, s3⟩, bA, bn, bc, body, pos, next, ⟨ua, ub, uc, ud⟩, dn⟩ := x
  obtain ⟨into', ⟨kind', name', frm', guid', oA', on', oc', own', index', count', data', t0, t1, t2, t3⟩, bA', bn', bc', body', pos', next', ⟨ua', ub', uc', ud'⟩, dn'⟩ := y
  simp only [Stg.bare, Rec.bare, Stg.mk.injEq, Rec.mk.injEq, Su.mk.injEq] at h
  obtain ⟨rfl, ⟨rfl, rfl, rfl, rfl, -, -, -, rfl, rfl, rfl, rfl, rfl, rfl, rfl, rfl⟩, -, -, -, rfl, rfl, rfl, ⟨rfl, rfl, rfl, rfl⟩, rfl⟩ := h
  simp [sameS, sameR, sumEq, sumR]
/-- a stage and an error are told; the content's memory, if fr, is not the caller's -/
def StOut (w : World) (A : Stg) (E : Int) (fr : Bool) (e : Ending) (w' : World) : Prop :=
  ∃ y : Stg, e = .returned (.tuple #[.agg y.cells.toArray, .int .i64 E]) ∧ y.bare = A ∧ y.rd w' ∧ (fr = true → Rd w' w.heap.size w'.heap.size y.bA (blks y.body) ∧ Rd w' w.heap.size w'.heap.size y.beg.oA (prps y.beg.own)) ∧ Ext w w'
theorem stout_zero {w w' : World} {E : Int} {fr : Bool} (e : Ext w w') : StOut w zeroS E fr (.returned (.tuple #[.agg zeroS.cells.toArray, .int .i64 E])) w' :=
  ⟨zeroS, rfl, rfl, ⟨fun h => absurd rfl h, rfl, Nat.zero_le _, rfl, Nat.zero_le _, fun h => absurd rfl h⟩, fun _ => ⟨fun h => absurd rfl h, fun h => absurd rfl h⟩, e⟩
def startE (into : ByteArray) (r : Rec) (base : List Blk) (raw : Int) : Int :=
  if into.size = 0 then 31 else if pathB into = false then 31 else if recE r ≠ 0 then recE r else if r.kind ≠ 1 then 35 else if bkE base ≠ 0 then 9
  else if amt raw = false then 4 else if amt (raw + ((encB r).length : Int)) = false then 4 else 0
def startA (into : ByteArray) (r : Rec) (base : List Blk) (raw : Int) : Stg :=
  if startE into r base raw = 0 then ⟨into, r.bare, none, 0, 0, base, raw + ((encB r).length : Int), 0, feed Su.zero (encB r), false⟩ else zeroS
theorem zero_of_ne {A B : Stg} {V : Int} (h : A = if V = 0 then B else zeroS) (hV : V ≠ 0) : A = zeroS := by rw [h, if_neg hV]

set_option maxRecDepth 100000 in
set_option maxHeartbeats 8000000 in
theorem start_any (w : World) (hM : MaxV w) (into : ByteArray) (hin : into.size ≤ 100000000) (r : Rec) (hr : Rd w 0 w.heap.size r.oA (prps r.own)) (hx : r.wf) (hon : r.on ≤ 100000000) (hs : (sumR r).wf)
    (bA : Option Addr) (bn bc : Nat) (base : List Blk) (hbn : bn = base.length) (hbm : bn ≤ 100000000) (hbr : Rd w 0 w.heap.size bA (blks base)) (hbw : ∀ y ∈ base, y.wf) (raw : Int) (hw1 : -9223372036854775808 ≤ raw) (hw2 : raw ≤ 9223372036854775807) :
    Calls Tryz.prog 7 #[.string into, .agg r.cells.toArray, .slice bA bn bc, .int .i64 raw] w (StOut w (startA into r base raw) (startE into r base raw) true) := by
  have HPa := Lib.hid (fun W (hW : Ext w W) => path_any into W (hM.ext hW) (by omega))
  have HRe := Lib.hid (fun W (hW : Ext w W) => check_any W r (Rd.at hr hW (Nat.le_refl _)) hx)
  have HBk := Lib.hid (fun W (hW : Ext w W) => bcheck_any W bA bn bc base hbn (by omega) (Rd.at hbr hW (Nat.le_refl _)) hbw)
  have HAm := Lib.hid (fun W => amount_any W raw hw1 hw2)
  have HV := Lib.hid (show startE into r base raw = if into.size = 0 then 31 else if pathB into = false then 31 else if recE r ≠ 0 then recE r else if r.kind ≠ 1 then 35 else if bkE base ≠ 0 then 9
    else if amt raw = false then 4 else if amt (raw + ((encB r).length : Int)) = false then 4 else 0 from rfl)
  have HSA := Lib.hid (show startA into r base raw = if startE into r base raw = 0 then ⟨into, r.bare, none, 0, 0, base, raw + ((encB r).length : Int), 0, feed Su.zero (encB r), false⟩ else zeroS from rfl)
  have HRaw := Lib.hid (fun (its : List It) (W : World) (H : Heap w its W) (b : Nat) (y : Stg) (hi : its[0]? = some (.box b y.cells)) (hy1 : 0 ≤ y.pos) (hy2 : y.pos ≤ 1099511627776) => raw_any W H b 0 y hi hy1 hy2 r (Rd.at hr H.ext (Nat.le_refl _)) hx hon hs)
  have HPc := Lib.hid (fun W (hW : Ext w W) => pclone_any W r.oA r.on r.oc r.own hx.own (Rd.at hr hW (Nat.le_refl _)) (by omega))
  have HBc := Lib.hid (fun W (hW : Ext w W) => bclone_any W bA bn bc base hbn (Rd.at hbr hW (Nat.le_refl _)) (by omega))
  have HBE := Lib.hid (bkE_cases base)
  have HBn := Lib.hid hbn
  have HOn := Lib.hid hx.own
  have HLn := Lib.hid (encB_len r)
  have hon' := hon
  clear hr hx hs hbn hbr hbw hon
  generalize startE into r base raw = V at *
  generalize startA into r base raw = SA at *
  obtain ⟨q, hq⟩ : ∃ q, q = feed Su.zero (encB r) := ⟨_, rfl⟩
  rw [← hq] at HSA
  have HQ0 := Lib.hid hq
  clear hq
  generalize encB r = B at *
  generalize recE r = RE at *
  generalize bkE base = BE at *
  obtain ⟨kind, name, frm, guid, oA, on, oc, own, index, count, data, s0, s1, s2, s3⟩ := r
  dsimp only at HV HPc HOn hon'
  simp only [Rec.cells] at HRe ⊢
  by_cases c1 : into.size = 0
  · have HF := Lib.hid (show V = 31 by rw [HV.out, if_pos c1])
    obtain rfl := empty_of into c1
    clear c1
    have HG := Lib.hid (show SA = zeroS by rw [HSA.out, HF.out]; rfl); go_enter Tryz.func7, Tryz.ntmps7; go_upto_region 1 with fail; generalize hwH : World.alloc (World.alloc w _) _ = w1; have HH := Lib.hid (Heap.two hwH); clear hwH; go_wp2_with (first | (refine shl_load HH.out sizeRec (by kernel_rfl) rfl rfl rfl 1 rfl rfl ?_) | (refine shl_store HH.out sizeStg rfl rfl rfl rfl 0 rfl rfl rfl rfl ?_; clear HH; intro wS HHS; have HH := Lib.hid HHS; clear HHS) | (refine shl_load1 HH.out rfl rfl rfl 1 rfl rfl (by decide +kernel) ?_) | (go_at_call 25; (with_reducible refine (HPa.out _ HH.out.ext).mono ?_); rintro e wC ⟨rfl, eC⟩; have HHn := Lib.hid (HH.out.later eC); clear HH eC; have HH := HHn; clear HHn) | (go_at_call 26; (with_reducible refine (HRe.out _ HH.out.ext).mono ?_); rintro e wC ⟨rfl, eC⟩; have HHn := Lib.hid (HH.out.later eC); clear HH eC; have HH := HHn; clear HHn) | (go_at_call 27; (with_reducible refine (HBk.out _ HH.out.ext).mono ?_); rintro e wC ⟨rfl, eC⟩; have HHn := Lib.hid (HH.out.later eC); clear HH eC; have HH := HHn; clear HHn) | (go_at_call 28; (with_reducible refine (HAm.out _).mono ?_); rintro e wC ⟨rfl, eC⟩; have HHn := Lib.hid (HH.out.later eC); clear HH eC; have HH := HHn; clear HHn)); refine ret_cell2 sizeStg (by kernel_rfl) HH.out rfl rfl rfl 0 rfl rfl rfl ?_; rw [HF.out, HG.out]; exact stout_zero HH.out.ext
  · rw [if_neg c1] at HV
    have b0 : into.toList.isEmpty = false := by
      rw [ByteArray.toList_eq, List.isEmpty_eq_false_iff]
      intro e
      have := len_data into
      rw [e] at this
      exact c1 this.symm
    clear c1
    by_cases c2 : pathB into = false
    · have HF := Lib.hid (show V = 31 by rw [HV.out, if_pos c2])
      have HG := Lib.hid (show SA = zeroS by rw [HSA.out, HF.out]; rfl); go_enter Tryz.func7, Tryz.ntmps7; go_upto_region 1 with fail; generalize hwH : World.alloc (World.alloc w _) _ = w1; have HH := Lib.hid (Heap.two hwH); clear hwH; go_wp2_with (first | (refine shl_load HH.out sizeRec (by kernel_rfl) rfl rfl rfl 1 rfl rfl ?_) | (refine shl_store HH.out sizeStg rfl rfl rfl rfl 0 rfl rfl rfl rfl ?_; clear HH; intro wS HHS; have HH := Lib.hid HHS; clear HHS) | (refine shl_load1 HH.out rfl rfl rfl 1 rfl rfl (by decide +kernel) ?_) | (go_at_call 25; (with_reducible refine (HPa.out _ HH.out.ext).mono ?_); rintro e wC ⟨rfl, eC⟩; have HHn := Lib.hid (HH.out.later eC); clear HH eC; have HH := HHn; clear HHn) | (go_at_call 26; (with_reducible refine (HRe.out _ HH.out.ext).mono ?_); rintro e wC ⟨rfl, eC⟩; have HHn := Lib.hid (HH.out.later eC); clear HH eC; have HH := HHn; clear HHn) | (go_at_call 27; (with_reducible refine (HBk.out _ HH.out.ext).mono ?_); rintro e wC ⟨rfl, eC⟩; have HHn := Lib.hid (HH.out.later eC); clear HH eC; have HH := HHn; clear HHn) | (go_at_call 28; (with_reducible refine (HAm.out _).mono ?_); rintro e wC ⟨rfl, eC⟩; have HHn := Lib.hid (HH.out.later eC); clear HH eC; have HH := HHn; clear HHn)); refine ret_cell2 sizeStg (by kernel_rfl) HH.out rfl rfl rfl 0 rfl rfl rfl ?_; rw [HF.out, HG.out]; exact stout_zero HH.out.ext
    · rw [if_neg c2] at HV
      rw [Bool.not_eq_false] at c2
      by_cases c3 : RE = 0
      · rw [if_neg (by simpa using c3)] at HV
        subst c3
        by_cases c4 : kind = 1
        · rw [if_neg (by simpa using c4)] at HV
          subst c4
          by_cases c5 : BE = 0
          · rw [if_neg (by simpa using c5)] at HV
            subst c5
            by_cases c6 : amt raw = false
            · have HF := Lib.hid (show V = 4 by rw [HV.out, if_pos c6])
              have HG := Lib.hid (show SA = zeroS by rw [HSA.out, HF.out]; rfl); go_enter Tryz.func7, Tryz.ntmps7; go_upto_region 1 with fail; generalize hwH : World.alloc (World.alloc w _) _ = w1; have HH := Lib.hid (Heap.two hwH); clear hwH; go_wp2_with (first | (refine shl_load HH.out sizeRec (by kernel_rfl) rfl rfl rfl 1 rfl rfl ?_) | (refine shl_store HH.out sizeStg rfl rfl rfl rfl 0 rfl rfl rfl rfl ?_; clear HH; intro wS HHS; have HH := Lib.hid HHS; clear HHS) | (refine shl_load1 HH.out rfl rfl rfl 1 rfl rfl (by decide +kernel) ?_) | (go_at_call 25; (with_reducible refine (HPa.out _ HH.out.ext).mono ?_); rintro e wC ⟨rfl, eC⟩; have HHn := Lib.hid (HH.out.later eC); clear HH eC; have HH := HHn; clear HHn) | (go_at_call 26; (with_reducible refine (HRe.out _ HH.out.ext).mono ?_); rintro e wC ⟨rfl, eC⟩; have HHn := Lib.hid (HH.out.later eC); clear HH eC; have HH := HHn; clear HHn) | (go_at_call 27; (with_reducible refine (HBk.out _ HH.out.ext).mono ?_); rintro e wC ⟨rfl, eC⟩; have HHn := Lib.hid (HH.out.later eC); clear HH eC; have HH := HHn; clear HHn) | (go_at_call 28; (with_reducible refine (HAm.out _).mono ?_); rintro e wC ⟨rfl, eC⟩; have HHn := Lib.hid (HH.out.later eC); clear HH eC; have HH := HHn; clear HHn)); refine ret_cell2 sizeStg (by kernel_rfl) HH.out rfl rfl rfl 0 rfl rfl rfl ?_; rw [HF.out, HG.out]; exact stout_zero HH.out.ext
            · rw [if_neg c6] at HV
              rw [Bool.not_eq_false] at c6
              go_enter Tryz.func7, Tryz.ntmps7; go_upto_region 1 with fail; generalize hwH : World.alloc (World.alloc w _) _ = w1; have HH := Lib.hid (Heap.two hwH); clear hwH
              go_upto_region 13 with (first | (refine shl_load HH.out sizeRec (by kernel_rfl) rfl rfl rfl 1 rfl rfl ?_) | (refine shl_store HH.out sizeStg rfl rfl rfl rfl 0 rfl rfl rfl rfl ?_; clear HH; intro wS HHS; have HH := Lib.hid HHS; clear HHS) | (refine shl_load1 HH.out rfl rfl rfl 1 rfl rfl (by decide +kernel) ?_) | (go_at_call 25; (with_reducible refine (HPa.out _ HH.out.ext).mono ?_); rintro e wC ⟨rfl, eC⟩; have HHn := Lib.hid (HH.out.later eC); clear HH eC; have HH := HHn; clear HHn) | (go_at_call 26; (with_reducible refine (HRe.out _ HH.out.ext).mono ?_); rintro e wC ⟨rfl, eC⟩; have HHn := Lib.hid (HH.out.later eC); clear HH eC; have HH := HHn; clear HHn) | (go_at_call 27; (with_reducible refine (HBk.out _ HH.out.ext).mono ?_); rintro e wC ⟨rfl, eC⟩; have HHn := Lib.hid (HH.out.later eC); clear HH eC; have HH := HHn; clear HHn) | (go_at_call 28; (with_reducible refine (HAm.out _).mono ?_); rintro e wC ⟨rfl, eC⟩; have HHn := Lib.hid (HH.out.later eC); clear HH eC; have HH := HHn; clear HHn))
              go_wp2_with fail
              refine (HBc.out _ HH.out.ext).mono ?_
              rintro e w5 ⟨v5, rfl, hown5, e5⟩
              obtain ⟨A5, d5, rfl, k1, k2, _⟩ := own_form hown5
              have HH5 := Lib.hid (HH.out.addRow e5 hown5)
              clear HH hown5 e5
              go_upto_region 14 with fail
              generalize hwA : World.alloc _ _ = w6
              have HH := Lib.hid (HH5.out.allocE hwA)
              clear hwA HH5
              go_wp2_with (refine shl_load HH.out sizeRec (by kernel_rfl) rfl rfl rfl 3 rfl rfl ?_)
              have hb := c6
              simp only [amt, Bool.and_eq_true, decide_eq_true_eq] at hb
              refine (HRaw.out _ _ HH.out _ ⟨into, zeroR', A5, bn, d5, base, raw, 0, Su.zero, false⟩ rfl hb.1 hb.2).mono ?_
              rintro e w7 ⟨rfl, h7⟩
              obtain ⟨m, hm⟩ : ∃ m : Int, m = (B.length : Int) := ⟨_, rfl⟩
              rw [← hm] at h7 HV HSA
              have hm2 : 0 ≤ m ∧ m ≤ 1000 := by have := HLn.out; omega
              clear hm
              have HQ := Lib.hid (show q = feed Su.zero B from HQ0.out)
              have HH7 := Lib.hid (show Heap w [.box w5.heap.size [.string into, .int .i64 0, .string ⟨#[]⟩, .int .i64 0, .int .i64 0, .slice none 0 0, .int .i64 0, .int .i64 0, .string ⟨#[]⟩, .int .u64 0, .int .u64 0, .int .u64 0, .int .u64 0, .slice A5 bn d5, .int .i64 (raw + m), .int .i64 0, .int .u64 q.a, .int .u64 q.b, .int .u64 q.c, .int .u64 q.d, .bool false], _, _, _] w7 from by rw [HQ.out]; exact h7)
              clear HH h7
              have HH := HH7
              clear HH7
              have HA2 := Lib.hid (fun W => amount_any W (raw + m) (by omega) (by omega))
              by_cases c7 : amt (raw + m) = false
              · have HF := Lib.hid (show V = 4 by rw [HV.out, if_pos c7])
                have HG := Lib.hid (show SA = zeroS by rw [HSA.out, HF.out]; rfl)
                go_wp2_with (first | (refine shl_load1 HH.out rfl rfl rfl 0 rfl rfl (by decide +kernel) ?_) | (go_at_call 28; (with_reducible refine (HA2.out _).mono ?_); rintro e wC ⟨rfl, eC⟩; have HHn := Lib.hid (HH.out.later eC); clear HH eC; have HH := HHn; clear HHn) | (refine shl_store HH.out sizeStg rfl rfl rfl rfl 2 rfl rfl rfl rfl ?_; clear HH; intro wS HHS; have HH := Lib.hid HHS; clear HHS))
                refine ret_cell2 sizeStg (by kernel_rfl) HH.out rfl rfl rfl 2 rfl rfl rfl ?_
                rw [HF.out, HG.out]
                exact stout_zero HH.out.ext
              · rw [if_neg c7] at HV
                rw [Bool.not_eq_false] at c7
                go_upto_region 17 with (first | (refine shl_load1 HH.out rfl rfl rfl 0 rfl rfl (by decide +kernel) ?_) | (go_at_call 28; (with_reducible refine (HA2.out _).mono ?_); rintro e wC ⟨rfl, eC⟩; have HHn := Lib.hid (HH.out.later eC); clear HH eC; have HH := HHn; clear HHn))
                go_wp2_with (refine shl_load1 HH.out rfl rfl rfl 3 rfl rfl (by decide +kernel) ?_)
                refine (HPc.out _ HH.out.ext).mono ?_
                rintro e w9 ⟨v9, rfl, hown9, e9⟩
                obtain ⟨A9, d9, rfl, k3, k4, _⟩ := own_form hown9
                have HH9 := Lib.hid (HH.out.addRow e9 hown9)
                clear HH hown9 e9
                have HH := HH9
                clear HH9
                go_wp2_with (first | (refine shl_load HH.out sizeStg (by kernel_rfl) rfl rfl rfl 1 rfl rfl ?_) | (refine shl_load HH.out sizeRec (by kernel_rfl) rfl rfl rfl 4 rfl rfl ?_) | (refine shl_store HH.out sizeStg rfl rfl rfl rfl 3 rfl rfl rfl rfl ?_; clear HH; intro wS HHS; have HH := Lib.hid HHS; clear HHS) | (refine shl_store HH.out sizeRec rfl rfl rfl rfl 1 rfl rfl rfl rfl ?_; clear HH; intro wS HHS; have HH := Lib.hid HHS; clear HHS) | (refine shl_store1 HH.out rfl rfl rfl rfl 4 rfl rfl rfl (by kernel_rfl) ?_; clear HH; intro wS HHS; have HH := Lib.hid HHS; clear HHS))
                have HF := Lib.hid (show V = 0 by rw [HV.out])
                have HG := Lib.hid (HSA.out.trans (if_pos HF.out))
                refine ret_cell2 sizeStg (by kernel_rfl) HH.out rfl rfl rfl 3 rfl rfl rfl ?_
                rw [HF.out, HG.out]
                exact ⟨⟨into, ⟨1, name, frm, guid, A9, on, d9, own, index, count, data, s0, s1, s2, s3⟩, A5, bn, d5, base, raw + m, 0, q, false⟩, rfl, rfl, ⟨(Rd.of_own (HH.out.rowAt 0 rfl)).more (Nat.zero_le _) (Nat.le_refl _), HOn.out, hon', HBn.out, (by show bn ≤ 200000000; omega), (Rd.of_own (HH.out.rowAt 2 rfl)).more (Nat.zero_le _) (Nat.le_refl _)⟩, fun _ => ⟨Rd.of_own (HH.out.rowAt 2 rfl), Rd.of_own (HH.out.rowAt 0 rfl)⟩, HH.out.ext⟩
          · have HF := Lib.hid (show V = 9 by rw [HV.out, if_pos c5])
            rcases HBE.out with h9 | h9
            · exact absurd h9 c5
            subst h9
            clear c5
            have HG := Lib.hid (show SA = zeroS by rw [HSA.out, HF.out]; rfl); go_enter Tryz.func7, Tryz.ntmps7; go_upto_region 1 with fail; generalize hwH : World.alloc (World.alloc w _) _ = w1; have HH := Lib.hid (Heap.two hwH); clear hwH; go_wp2_with (first | (refine shl_load HH.out sizeRec (by kernel_rfl) rfl rfl rfl 1 rfl rfl ?_) | (refine shl_store HH.out sizeStg rfl rfl rfl rfl 0 rfl rfl rfl rfl ?_; clear HH; intro wS HHS; have HH := Lib.hid HHS; clear HHS) | (refine shl_load1 HH.out rfl rfl rfl 1 rfl rfl (by decide +kernel) ?_) | (go_at_call 25; (with_reducible refine (HPa.out _ HH.out.ext).mono ?_); rintro e wC ⟨rfl, eC⟩; have HHn := Lib.hid (HH.out.later eC); clear HH eC; have HH := HHn; clear HHn) | (go_at_call 26; (with_reducible refine (HRe.out _ HH.out.ext).mono ?_); rintro e wC ⟨rfl, eC⟩; have HHn := Lib.hid (HH.out.later eC); clear HH eC; have HH := HHn; clear HHn) | (go_at_call 27; (with_reducible refine (HBk.out _ HH.out.ext).mono ?_); rintro e wC ⟨rfl, eC⟩; have HHn := Lib.hid (HH.out.later eC); clear HH eC; have HH := HHn; clear HHn) | (go_at_call 28; (with_reducible refine (HAm.out _).mono ?_); rintro e wC ⟨rfl, eC⟩; have HHn := Lib.hid (HH.out.later eC); clear HH eC; have HH := HHn; clear HHn)); refine ret_cell2 sizeStg (by kernel_rfl) HH.out rfl rfl rfl 0 rfl rfl rfl ?_; rw [HF.out, HG.out]; exact stout_zero HH.out.ext
        · have HF := Lib.hid (show V = 35 by rw [HV.out, if_pos c4])
          have d4 : (kind != 1) = true := by simpa using c4
          clear c4
          have HG := Lib.hid (show SA = zeroS by rw [HSA.out, HF.out]; rfl); go_enter Tryz.func7, Tryz.ntmps7; go_upto_region 1 with fail; generalize hwH : World.alloc (World.alloc w _) _ = w1; have HH := Lib.hid (Heap.two hwH); clear hwH; go_wp2_with (first | (refine shl_load HH.out sizeRec (by kernel_rfl) rfl rfl rfl 1 rfl rfl ?_) | (refine shl_store HH.out sizeStg rfl rfl rfl rfl 0 rfl rfl rfl rfl ?_; clear HH; intro wS HHS; have HH := Lib.hid HHS; clear HHS) | (refine shl_load1 HH.out rfl rfl rfl 1 rfl rfl (by decide +kernel) ?_) | (go_at_call 25; (with_reducible refine (HPa.out _ HH.out.ext).mono ?_); rintro e wC ⟨rfl, eC⟩; have HHn := Lib.hid (HH.out.later eC); clear HH eC; have HH := HHn; clear HHn) | (go_at_call 26; (with_reducible refine (HRe.out _ HH.out.ext).mono ?_); rintro e wC ⟨rfl, eC⟩; have HHn := Lib.hid (HH.out.later eC); clear HH eC; have HH := HHn; clear HHn) | (go_at_call 27; (with_reducible refine (HBk.out _ HH.out.ext).mono ?_); rintro e wC ⟨rfl, eC⟩; have HHn := Lib.hid (HH.out.later eC); clear HH eC; have HH := HHn; clear HHn) | (go_at_call 28; (with_reducible refine (HAm.out _).mono ?_); rintro e wC ⟨rfl, eC⟩; have HHn := Lib.hid (HH.out.later eC); clear HH eC; have HH := HHn; clear HHn)); refine ret_cell2 sizeStg (by kernel_rfl) HH.out rfl rfl rfl 0 rfl rfl rfl ?_; rw [HF.out, HG.out]; exact stout_zero HH.out.ext
      · have HF := Lib.hid (show V = RE by rw [HV.out, if_pos c3])
        have d3 : (RE != 0) = true := by simpa using c3
        have HG := Lib.hid (zero_of_ne HSA.out (by rw [HF.out]; exact c3))
        clear c3
        go_enter Tryz.func7, Tryz.ntmps7; go_upto_region 1 with fail; generalize hwH : World.alloc (World.alloc w _) _ = w1; have HH := Lib.hid (Heap.two hwH); clear hwH
        go_wp2_with (first | (refine shl_load HH.out sizeRec (by kernel_rfl) rfl rfl rfl 1 rfl rfl ?_) | (refine shl_store HH.out sizeStg rfl rfl rfl rfl 0 rfl rfl rfl rfl ?_; clear HH; intro wS HHS; have HH := Lib.hid HHS; clear HHS) | (refine shl_load1 HH.out rfl rfl rfl 1 rfl rfl (by decide +kernel) ?_) | (go_at_call 25; (with_reducible refine (HPa.out _ HH.out.ext).mono ?_); rintro e wC ⟨rfl, eC⟩; have HHn := Lib.hid (HH.out.later eC); clear HH eC; have HH := HHn; clear HHn) | (go_at_call 26; (with_reducible refine (HRe.out _ HH.out.ext).mono ?_); rintro e wC ⟨rfl, eC⟩; have HHn := Lib.hid (HH.out.later eC); clear HH eC; have HH := HHn; clear HHn) | (go_at_call 27; (with_reducible refine (HBk.out _ HH.out.ext).mono ?_); rintro e wC ⟨rfl, eC⟩; have HHn := Lib.hid (HH.out.later eC); clear HH eC; have HH := HHn; clear HHn) | (go_at_call 28; (with_reducible refine (HAm.out _).mono ?_); rintro e wC ⟨rfl, eC⟩; have HHn := Lib.hid (HH.out.later eC); clear HH eC; have HH := HHn; clear HHn))
        refine ret_cell2 sizeStg (by kernel_rfl) HH.out rfl rfl rfl 0 rfl rfl rfl ?_
        rw [HF.out, HG.out]
        exact stout_zero HH.out.ext
end Go.Proofs.YtmecjjmlccdppaaGreatDoor
