/- The texts Prs, Sbr, Rr9, Rpth in one file. -/
import Derived.Test.YtckaneapjpiocaaGreatDoorM16
import Derived.Test.YtckaneapjpiocaaGreatDoorM15
import Derived.Test.YtckaneapjpiocaaGreatDoorM11
import Derived.Test.YtckaneapjpiocaaGreatDoorM17
import Derived.Test.YtckaneapjpiocaaGreatDoorM9
import Derived.Test.YtckaneapjpiocaaGreatDoorM2
namespace Go.Proofs.YtckaneapjpiocaaGreatDoor
open Go.RowKit
set_option linter.unusedVariables false
set_option linter.unusedSimpArgs false
theorem byte_at {w : World} {lo hi b o : Nat} {l : List UInt8} {k : Nat} (h : Rd w lo hi (some ⟨b, o, none⟩) (bytes l)) (hk : k < l.length) : w.cell? ⟨b, o + k, none⟩ = some (.int .u8 l[k].toNat) := by
  obtain ⟨b1, o1, he, _, _, f0⟩ := rd_byte h hk
  cases he
  exact f0
theorem recE_of {y A : Rec} (h : y.bare = A) (ho : y.on = y.own.length) (hA : A.kind = 1 ∨ A.own = []) : recE y = recE A := by
  subst h
  obtain ⟨kind, name, frm, guid, oA, on, oc, own, index, count, data, s0, s1, s2, s3⟩ := y
  dsimp only at ho
  subst ho
  rcases hA with hA | hA
  · have hA' : kind = 1 := hA
    subst hA'
    rfl
  · have hA' : own = [] := hA
    subst hA'
    rfl
theorem readA_own (k : Int) (ts : List ByteArray) : (readA k ts).kind = 1 ∨ (readA k ts).own = [] := by
  unfold readA
  by_cases k1 : k = 1
  · rw [if_pos k1]; exact .inl rfl
  · rw [if_neg k1]
    by_cases k2 : k = 2
    · rw [if_pos k2]; exact .inr rfl
    · rw [if_neg k2]
      by_cases k3 : k = 3
      · rw [if_pos k3]; exact .inr rfl
      · rw [if_neg k3]; exact .inr rfl
set_option maxRecDepth 100000 in
set_option maxHeartbeats 8000000 in
theorem parse_any (w : World) (A : Option Addr) (n c : Nat) (l : List UInt8) (hn : n = l.length) (hnc : n ≤ c) (hr : Rd w 0 w.heap.size A (bytes l)) (hb : n ≤ 1000000000) (hc : c ≤ 9223372036854775807) :
    Calls Tryz.prog 109 #[.slice A n c] w (PsOut w l) := by
  rcases hl : l with _ | ⟨b, r⟩
  · subst hl
    obtain rfl : n = 0 := hn
    have HE := Lib.hid (show psE [] = 8 from rfl)
    clear hr hnc
    go_enter Tryz.func109, Tryz.ntmps109; go_upto_region 1 with fail; generalize hwH : World.alloc w _ = w1; have HH := Lib.hid (Heap.one hwH); clear hwH
    go_wp2_with (first | (refine shl_store HH.out sizeRec rfl rfl rfl rfl 0 rfl rfl rfl rfl ?_; clear HH; intro wS HHS; have HH := Lib.hid HHS; clear HHS)); refine ret_cell3 sizeRec (by kernel_rfl) HH.out rfl rfl rfl rfl 0 rfl rfl rfl ?_; exact psOut_zero HE.out (by decide) HH.out.ext
  · rw [← hl]
    obtain ⟨j0, hj0, hy0, hy1, hy2⟩ := info_parts info5
    have Hn := Lib.hid hn
    have HV := Lib.hid (show psE l = if b.toNat < 1 ∨ 4 < b.toNat then 23 else if l.length < 3 then 8 else if l.length < 3 + psN l then 8
      else if (rd (psT l)).1 ≠ 0 ∨ readB b.toNat (rd (psT l)).2 = false then 33 else if recE (readA b.toNat (rd (psT l)).2) ≠ 0 then 9 else 0 by subst hl; rfl)
    have HSA := Lib.hid (show psA l = if psE l = 0 then readA b.toNat (rd (psT l)).2 else zeroR' by subst hl; rfl)
    have HSM := Lib.hid (show psM l = if psE l = 0 then 3 + psN l else 0 from rfl)
    rw [← hn] at HV
    have h0 : 0 < l.length := by rw [hl]; simp
    have h00 : l[0]'h0 = b := by subst hl; rfl
    obtain ⟨b1, o1, rfl, hx1, hx2, hx3⟩ := rd_byte hr (k := 0) h0
    clear hx1 hx2 hx3
    have HF0 := Lib.hid (fun W (hW : Ext w W) => show W.cell? ⟨b1, o1, none⟩ = some (.int .u8 b.toNat) from by
      have h := byte_at (hr.ext hW (Nat.le_refl _)) (k := 0) h0
      rw [h00] at h
      simpa using h)
    have hn1 : 1 ≤ n := by rw [hn]; omega
    have hbb := b.toNat_lt
    have z0 : ((n : Int) == 0) = false := by simp; omega
    have HMid := Lib.hid (fun (k m : Nat) (hk : k + m ≤ n) => hr.mid (k := k) (m := m) hn hk hnc)
    have HRdb := Lib.hid (rd_small (psT l))
    have HDl := Lib.hid (show ∀ k m, k + m ≤ n → ((l.drop k).take m).length = m from fun k m h => by simp only [List.length_take, List.length_drop]; omega)
    have HTw := Lib.hid (show 3 ≤ n → numV ((l.drop 1).take 2) = psN l ∧ numE ((l.drop 1).take 2) = 0 from fun h => two_small (l.drop 1) (by simp; omega))
    clear hn hr hl h0 h00
    have HPT := Lib.hid (show psT l = (l.drop 3).take (psN l) from rfl)
    generalize b.toNat = v at *
    by_cases q1 : v < 1
    · have HE := Lib.hid (show psE l = 23 by rw [HV.out, if_pos (.inl q1)])
      go_enter Tryz.func109, Tryz.ntmps109; go_upto_region 1 with fail; generalize hwH : World.alloc w _ = w1; have HH := Lib.hid (Heap.one hwH); clear hwH
      have f0 := HF0.out w1 HH.out.ext
      go_wp2_with (first | (refine shl_store HH.out sizeRec rfl rfl rfl rfl 0 rfl rfl rfl rfl ?_; clear HH; intro wS HHS; have HH := Lib.hid HHS; clear HHS)); refine ret_cell3 sizeRec (by kernel_rfl) HH.out rfl rfl rfl rfl 0 rfl rfl rfl ?_; exact psOut_zero HE.out (by decide) HH.out.ext
    · by_cases q2 : 4 < v
      · have HE := Lib.hid (show psE l = 23 by rw [HV.out, if_pos (.inr q2)])
        go_enter Tryz.func109, Tryz.ntmps109; go_upto_region 1 with fail; generalize hwH : World.alloc w _ = w1; have HH := Lib.hid (Heap.one hwH); clear hwH
        have f0 := HF0.out w1 HH.out.ext
        go_wp2_with (first | (refine shl_store HH.out sizeRec rfl rfl rfl rfl 0 rfl rfl rfl rfl ?_; clear HH; intro wS HHS; have HH := Lib.hid HHS; clear HHS)); refine ret_cell3 sizeRec (by kernel_rfl) HH.out rfl rfl rfl rfl 0 rfl rfl rfl ?_; exact psOut_zero HE.out (by decide) HH.out.ext
      · have q12 : ¬ (v < 1 ∨ 4 < v) := by omega
        rw [if_neg q12] at HV
        by_cases q3 : n < 3
        · have HE := Lib.hid (show psE l = 8 by rw [HV.out, if_pos q3])
          go_enter Tryz.func109, Tryz.ntmps109; go_upto_region 1 with fail; generalize hwH : World.alloc w _ = w1; have HH := Lib.hid (Heap.one hwH); clear hwH
          have f0 := HF0.out w1 HH.out.ext
          go_wp2_with (first | (refine shl_store HH.out sizeRec rfl rfl rfl rfl 0 rfl rfl rfl rfl ?_; clear HH; intro wS HHS; have HH := Lib.hid HHS; clear HHS)); refine ret_cell3 sizeRec (by kernel_rfl) HH.out rfl rfl rfl rfl 0 rfl rfl rfl ?_; exact psOut_zero HE.out (by decide) HH.out.ext
        · rw [if_neg q3] at HV
          have hs13 : ∀ W, (Instr.slice 53 (.slice (some ⟨b1, o1, none⟩) n c) (some (.int .i64 1)) (some (.int .i64 3)) none).run Tryz.prog W = .ok (.slice (shiftA (some ⟨b1, o1, none⟩) c 1 1) 2 (c - 1)) W := fun W => slice_mid W 53 5 j0 1 Tryz.underlying53 hj0 hy1 (some ⟨b1, o1, none⟩) n c 1 3 _ _ rfl rfl (by omega) (by omega)
          have HTw2 := Lib.hid (HTw.out (by omega))
          have HNu := Lib.hid (fun W (hW : Ext w W) => number_any W (shiftA (some ⟨b1, o1, none⟩) c 1 1) 2 (c - 1) 0 w.heap.size ((l.drop 1).take 2) (HDl.out 1 2 (by omega)).symm (by omega) ((HMid.out 1 2 (by omega)).ext hW (Nat.le_refl _)) hW.size)
          clear HTw
          go_enter Tryz.func109, Tryz.ntmps109; go_upto_region 1 with fail; generalize hwH : World.alloc w _ = w1; have HH := Lib.hid (Heap.one hwH); clear hwH
          have f0 := HF0.out w1 HH.out.ext
          go_upto_region 7 with fail
          go_wp2_with fail
          refine (HNu.out _ HH.out.ext).mono ?_
          rintro e w2 ⟨rfl, e2⟩
          rw [HTw2.out.1, HTw2.out.2]
          have HH2 := Lib.hid (HH.out.later e2)
          clear HH e2 f0 hs13 HNu HTw2
          have HH := HH2
          clear HH2
          have hpn : psN l < 65536 := by
            have h1 := val_lt ((l.drop 1).take 2)
            have h2 : ((l.drop 1).take 2).length ≤ 2 := by simp; omega
            exact Nat.lt_of_lt_of_le h1 (Nat.pow_le_pow_right (n := 256) (by omega) h2)
          by_cases q4 : n < 3 + psN l
          · have HE := Lib.hid (show psE l = 8 by rw [HV.out, if_pos q4])
            generalize psN l = m at *
            go_wp2_with (first | (refine shl_store HH.out sizeRec rfl rfl rfl rfl 0 rfl rfl rfl rfl ?_; clear HH; intro wS HHS; have HH := Lib.hid HHS; clear HHS)); refine ret_cell3 sizeRec (by kernel_rfl) HH.out rfl rfl rfl rfl 0 rfl rfl rfl ?_; exact psOut_zero HE.out (by decide) HH.out.ext
          · rw [if_neg q4] at HV
            have HT := Lib.hid (fun W (hW : Ext w W) => read_any W (shiftA (some ⟨b1, o1, none⟩) c 3 1) (psN l) (c - 3) (psT l) (by rw [HPT.out]; exact (HDl.out 3 (psN l) (by omega)).symm) (by omega) (by rw [HPT.out]; exact ((HMid.out 3 (psN l) (by omega)).ext hW (Nat.le_refl _)).more (Nat.le_refl _) hW.size) (by omega) (by omega))
            generalize psN l = m at *
            have hs3 : ∀ W, (Instr.slice 53 (.slice (some ⟨b1, o1, none⟩) n c) (some (.int .i64 3)) (some (.int .i64 (3 + (m : Int)))) none).run Tryz.prog W = .ok (.slice (shiftA (some ⟨b1, o1, none⟩) c 3 1) m (c - 3)) W := fun W => by
              have h := slice_mid (P := Tryz.prog) W 53 5 j0 1 Tryz.underlying53 hj0 hy1 (some ⟨b1, o1, none⟩) n c 3 (3 + m) 3 (3 + (m : Int)) rfl (by omega) (by omega) (by omega)
              rwa [Nat.add_sub_cancel_left] at h
            clear HMid HDl HPT
            go_upto_region 10 with fail
            go_wp2_with fail
            refine (HT.out _ HH.out.ext).mono ?_
            rintro e w3 ⟨v3, rfl, hown3, e3⟩
            obtain ⟨A3, c3, rfl, hc3, hm3, _⟩ := own_form hown3
            have HRr := Lib.hid (show Rdr.may w3 ⟨A3, c3, (rd (psT l)).2, true⟩ from ⟨(Rd.of_own hown3).m0, hc3, by simp only [maxLen] at hm3; exact hm3, fun s hs => Nat.le_trans (HRdb.out.2 s hs) (by decide)⟩)
            have HH3 := Lib.hid (HH.out.later e3)
            have E3 := Lib.hid (HH.out.ext.trans e3)
            clear HH hown3 e3 hs3 HT hc3 hm3
            have HH := HH3
            clear HH3
            have HRd := Lib.hid (rread2_any w3 v A3 (rd (psT l)).2.length c3 (rd (psT l)).2 rfl HRr.out (by omega) (Nat.le_trans HRdb.out.1 (by decide)) (fun s hs => Nat.le_trans (HRdb.out.2 s hs) (by decide)))
            have HOk := Lib.hid (readA_okc v (rd (psT l)).2 (by omega) (Nat.le_trans HRdb.out.1 (by decide)) (fun s hs => Nat.le_trans (HRdb.out.2 s hs) (by decide)))
            have HOw := Lib.hid (readA_own v (rd (psT l)).2)
            generalize hE1 : (rd (psT l)).1 = E1 at *
            generalize (rd (psT l)).2 = ts at *
            clear hE1 HRr HRdb
            have f0 := HF0.out _ E3.out
            go_upto_region 11 with fail
            go_wp2_with fail
            refine HRd.out.mono ?_
            generalize readA v ts = RA at *
            generalize readB v ts = RB at *
            rintro e w4 ⟨y, rfl, hy1, hy2, hy3, e4⟩
            have HH4 := Lib.hid (HH.out.addRd e4 hy3 (Nat.le_refl _))
            have HY1 := Lib.hid hy1
            have HY2 := Lib.hid hy2
            have HY3 := Lib.hid (hy3.m0)
            have HKc := Lib.hid (okc_bare (show y.bare = RA.bare by rw [← hy1]; rfl) HOk.out)
            have HKe := Lib.hid (recE_of hy1 hy2 HOw.out)
            have HCk := Lib.hid (fun W (hW : Ext w4 W) => check_any W y (Rd.at HY3.out hW (Nat.le_refl _)) (okc_wf HKc.out hy2))
            clear HH e4 hy1 hy2 hy3 f0 HRd HOk HOw
            have HH := HH4
            clear HH4
            generalize recE y = RE at *
            obtain ⟨kind, name, frm, guid, oA, on, oc, own, index, count, data, s0, s1, s2, s3⟩ := y
            simp only [Rec.cells] at HCk ⊢
            dsimp only at HY2 HY3 HH
            go_upto_region 12 with fail
            go_simp
            generalize hwA : World.alloc w4 _ = w5
            have HEw := Lib.hid (show Ext w4 w5 by rw [← hwA]; exact (Ext.refl w4).alloc _)
            have HH5 := Lib.hid (HH.out.allocE hwA)
            clear hwA HH
            have HH := HH5
            clear HH5
            by_cases q5 : E1 = 0
            · subst q5
              cases RB with
              | false =>
                have HE := Lib.hid (show psE l = 33 by rw [HV.out, if_pos (.inr rfl)])
                go_wp2_with (first | (refine shl_store HH.out sizeRec rfl rfl rfl rfl 2 rfl rfl rfl rfl ?_; clear HH; intro wS HHS; have HH := Lib.hid HHS; clear HHS)); refine ret_cell3 sizeRec (by kernel_rfl) HH.out rfl rfl rfl rfl 2 rfl rfl rfl ?_; exact psOut_zero HE.out (by decide) HH.out.ext
              | true =>
                rw [if_neg (by simp)] at HV
                go_upto_region 14 with fail
                go_wp2_with (refine shl_load HH.out sizeRec (by kernel_rfl) rfl rfl rfl 0 rfl rfl ?_)
                refine (HCk.out _ ((Ext.refl w4).trans HEw.out)).mono ?_
                rintro e w6 ⟨rfl, e6⟩
                have HH6 := Lib.hid (HH.out.later e6)
                have E6 := Lib.hid (HEw.out.trans e6)
                clear HH e6 HCk
                have HH := HH6
                clear HH6
                by_cases q6 : RE = 0
                · have hE := HV.out
                  rw [← HKe.out, if_neg (by simpa using q6)] at hE
                  have hA := HSA.out
                  rw [hE, if_pos rfl] at hA
                  have hM := HSM.out
                  rw [hE, if_pos rfl] at hM
                  have HE := Lib.hid hE
                  have HA := Lib.hid hA
                  have HM := Lib.hid hM
                  subst q6
                  clear hE hA hM HV HSA HSM HKe
                  go_wp2_with (first | (refine shl_load HH.out sizeRec (by kernel_rfl) rfl rfl rfl 0 rfl rfl ?_) | (refine shl_store HH.out sizeRec rfl rfl rfl rfl 2 rfl rfl rfl rfl ?_; clear HH; intro wS HHS; have HH := Lib.hid HHS; clear HHS))
                  refine ret_cell3 sizeRec (by kernel_rfl) HH.out rfl rfl rfl rfl 2 rfl rfl rfl ?_
                  exact ⟨⟨kind, name, frm, guid, oA, on, oc, own, index, count, data, s0, s1, s2, s3⟩, by rw [HE.out, HM.out]; rfl, by rw [HA.out]; exact HY1.out, HY2.out, HH.out.rdAt 1 rfl, HH.out.ext⟩
                · have hE := HV.out
                  rw [← HKe.out, if_pos (by simpa using q6)] at hE
                  have HE := Lib.hid hE
                  clear hE
                  have d3 : (RE != 0) = true := by simpa using q6
                  go_wp2_with (first | (refine shl_store HH.out sizeRec rfl rfl rfl rfl 2 rfl rfl rfl rfl ?_; clear HH; intro wS HHS; have HH := Lib.hid HHS; clear HHS)); refine ret_cell3 sizeRec (by kernel_rfl) HH.out rfl rfl rfl rfl 2 rfl rfl rfl ?_; exact psOut_zero HE.out (by decide) HH.out.ext
            · have d3 : (E1 != 0) = true := by simpa using q5
              have HE := Lib.hid (show psE l = 33 by rw [HV.out, if_pos (.inl q5)])
              go_wp2_with (first | (refine shl_store HH.out sizeRec rfl rfl rfl rfl 2 rfl rfl rfl rfl ?_; clear HH; intro wS HHS; have HH := Lib.hid HHS; clear HHS)); refine ret_cell3 sizeRec (by kernel_rfl) HH.out rfl rfl rfl rfl 2 rfl rfl rfl ?_; exact psOut_zero HE.out (by decide) HH.out.ext
open Go.RowKit
set_option linter.unusedSimpArgs false
def Stg.bare (x : Stg) : Stg := { x with bA := none, bn := 0, bc := 0, beg := x.beg.bare }
theorem same_bare (x y : Stg) (h : x.bare = y.bare) : sameS x y = true := by
  obtain ⟨into, ⟨kind, name, frm, guid, oA, on, oc, own, index, count, data, s0, s1, s2, s3⟩, bA, bn, bc, body, pos, next, ⟨ua, ub, uc, ud⟩, dn⟩ := x
  obtain ⟨into', ⟨kind', name', frm', guid', oA', on', oc', own', index', count', data', t0, t1, t2, t3⟩, bA', bn', bc', body', pos', next', ⟨ua', ub', uc', ud'⟩, dn'⟩ := y
  simp only [Stg.bare, Rec.bare, Stg.mk.injEq, Rec.mk.injEq, Su.mk.injEq] at h
  obtain ⟨rfl, ⟨rfl, rfl, rfl, rfl, -, -, -, rfl, rfl, rfl, rfl, rfl, rfl, rfl, rfl⟩, -, -, -, rfl, rfl, rfl, ⟨rfl, rfl, rfl, rfl⟩, rfl⟩ := h
  simp [sameS, sameR, sumEq, sumR]
open Go.RowKit Go.Maps Go.Sort Go.Shelf
set_option linter.unusedVariables false
set_option linter.unusedSimpArgs false
section
variable {P : Program} {l rest rest' : List Oper} {Q : Exit → Act → World → Prop} {md : Region.Mode} {S : World → Prop} {oi oj : Oper} {fuel : Nat} {m : Nat → Bool} {listed : Array Bool} {a : Act} {w : World}
theorem twoM (i j : Nat) (hi : l.drop i = oi :: rest) (hj : l.drop j = oj :: rest') (hr : Region.ready md l.toArray listed = [i, j]) (wi : Region.wanted oi (yielded l.toArray a.tmps) = true) (wj : Region.wanted oj (yielded l.toArray a.tmps) = true)
    (h1 : ∀ K' : Act → World → Prop, Shut (∀ a w, S w → (S w → wpAnyM P md l.toArray Q S m fuel (listed.setIfInBounds i true) a w) → K' a w) → Oper.wp P oi a w K' Q)
    (h2 : ∀ K' : Act → World → Prop, Shut (∀ a w, S w → (S w → wpAnyM P md l.toArray Q S m fuel (listed.setIfInBounds j true) a w) → K' a w) → Oper.wp P oj a w K' Q) : wpAnyM P md l.toArray Q S m (fuel + 1) listed a w := by
  refine ⟨fun h0 => absurd (hr ▸ h0) (by simp), fun k hk => ?_⟩
  rw [hr] at hk
  rcases List.mem_cons.1 hk with rfl | hk
  · exact wpOp_step (at_drop hi) fun K' hK => by rw [if_pos wi]; exact h1 K' (fun a w hS hW => hK a w ⟨fun _ => hS, hW hS⟩)
  · obtain rfl := List.mem_singleton.1 hk
    exact wpOp_step (at_drop hj) fun K' hK => by rw [if_pos wj]; exact h2 K' (fun a w hS hW => hK a w ⟨fun _ => hS, hW hS⟩)
end
def rRec : List ByteArray → Option (Rec × List ByteArray)
  | [] => none
  | s :: l => if psE s.data.toList = 0 ∧ psM s.data.toList = s.size then some (psA s.data.toList, l) else none
def rSum : List ByteArray → Option (Su × List ByteArray)
  | [] => none
  | s :: l => if sumE s.data.toList = 0 then some (sumOf s.data.toList, l) else none
def rStg (into : ByteArray) (ts : List ByteArray) : Option Stg :=
  (rRec ts).bind fun r => (rBody r.2).bind fun d => (rAm d.2).bind fun a => (rAm a.2).bind fun x => (rSum x.2).bind fun s => (rNm 1 s.2).bind fun q => (rEnd q.2).bind fun _ => some ⟨into, r.1, none, 0, 0, d.1, a.1, x.1, s.1, q.1 == 1⟩
def rStage (into : ByteArray) (l : List UInt8) : Option Stg := if (rd l).1 = 0 then rStg into (rd l).2 else none
structure StgIn (L : RdL) (x : Stg) : Prop where
  beg : (x.beg.oA, prps x.beg.own) ∈ L
  begL : x.beg.on = x.beg.own.length
  bodyN : x.bn = x.body.length
  bodyC : x.bn ≤ x.bc ∧ x.bc ≤ maxLen
  body : (x.bA, blks x.body) ∈ L
theorem StgIn.sub {L L2 : RdL} {x : Stg} (h : StgIn L x) (hs : ∀ q ∈ L, q ∈ L2) : StgIn L2 x := ⟨hs _ h.beg, h.begL, h.bodyN, h.bodyC, hs _ h.body⟩
structure Stg.fit (x : Stg) : Prop where
  into : sml x.into
  beg : x.beg.wf
  begN : x.beg.on ≤ 1048576
  begS : (sumR x.beg).wf
  bodyM : x.bn ≤ 1048576
  bodyW : ∀ b ∈ x.body, b.wf
  pos : (Lit.int .i64 x.pos).wf = true
  next : (Lit.int .i64 x.next).wf = true
  su : x.su.wf
def StgO (w0 : World) (its : List It) (r : Option Stg) (e : Ending) (w' : World) : Prop := match r with
  | none => e = panE 21 ∧ Heap w0 its w'
  | some px => ∃ (x : Stg) (S : Nat → Prop) (L2 : RdL), e = .returned (.agg x.cells.toArray) ∧ x.bare = px ∧ StgIn L2 x ∧ x.fit ∧ Heap w0 (It.bag S L2 :: its) w'
theorem psA_okc (l : List UInt8) (h : psE l = 0) : (psA l).okc := by
  rw [psA, if_pos h]
  have hs := rd_small (psT l)
  refine readA_okc _ _ ?_ (Nat.le_trans hs.1 (by decide)) (fun s h => Nat.le_trans (hs.2 s h) (by decide))
  have := ((l.headD 0).toNat_lt)
  omega
theorem psA_bare (l : List UInt8) (y : Rec) (h : y.bare = psA l) : psA l = (psA l).bare := by rw [← h]; rfl
set_option maxRecDepth 100000 in
set_option maxHeartbeats 16000000 in
theorem tr_stage {w0 w : World} {its : List It} (H : Heap w0 its w) (path : ByteArray) (hp : sml path) (key : ByteArray) (A : Option Addr) (n c : Nat) (l : List UInt8) (lA : Option Addr) (ln lc : Nat) (hn : n = l.length) (hnc : n ≤ c) (hcm : c ≤ maxLen) (hr : Rd w 0 w.heap.size A (bytes l)) (hN : n ≤ 100000000) :
    Calls Tryz.prog 50 #[.string path, .agg #[.string key, .slice A n c, .slice lA ln lc]] w (StgO w0 its (rStage path l)) := by
  have HH := Lib.hid H
  have HPt := Lib.hid hp
  have HOp := Lib.hid (fun W i9 (hW : Ext w W) (h : Heap w0 i9 W) => topen_any h key A n c l (.slice lA ln lc) hn hnc hcm (Rd.at hr hW (Nat.le_refl _)) hN)
  have HV := Lib.hid (show rStage path l = if (rd l).1 = 0 then rStg path (rd l).2 else none from rfl)
  generalize rStage path l = V at *
  clear H hp hn hnc hcm hr hN
  go_enter Tryz.func50, Tryz.ntmps50
  go_upto_region 1 with fail
  generalize hwH : World.alloc (World.alloc w _) _ = w1
  have HE := Lib.hid (show Ext w w1 by rw [← hwH]; exact ((Ext.refl w).alloc _).alloc _)
  replace HH := Lib.hid ((HH.out.alloc _ _).allocE hwH)
  clear hwH
  simp only [World.size_alloc] at HH
  obtain ⟨ob, hob⟩ : ∃ b, b = w.heap.size := ⟨_, rfl⟩
  obtain ⟨rb, hrb⟩ : ∃ b, b = w.heap.size + 1 := ⟨_, rfl⟩
  rw [← hrb, ← hob] at HH ⊢
  clear hrb hob
  go_wp2_with (refine shl_load HH.out sizeObj (by kernel_rfl) rfl rfl rfl 1 rfl rfl ?_)
  refine (HOp.out _ _ HE.out HH.out).mono ?_
  intro e w2 h
  clear HE HOp
  by_cases hE : (rd l).1 = 0
  · rw [TopO, if_pos hE] at h
    obtain ⟨b, rfl, h⟩ := h
    have hV := HV.out
    rw [if_pos hE, rStg] at hV
    replace HV := Lib.hid hV
    replace HH := Lib.hid h
    clear hV h hE
    generalize (rd l).2 = ts at *
    go_wp2_with fail
    cases ts with
    | nil =>
      have hV := HV.out
      rw [rRec, Option.bind_none] at hV
      subst hV
      refine (rtext_bad HH.out).mono ?_
      rintro e w3 ⟨rfl, h3⟩
      exact ⟨rfl, rfl, h3.tail.tail⟩
    | cons s us =>
      have hs := HH.out.small.2 s (List.mem_cons_self ..)
      refine (rtext_ok HH.out).mono ?_
      rintro e w3 ⟨rfl, h3⟩
      obtain ⟨cc, w4, hcv, e4, hr4, hcc, hcm⟩ := conv_bytes2 w3 s (by omega)
      replace HH := Lib.hid (h3.later e4)
      have HPs := Lib.hid (parse_any w4 _ s.size cc s.data.toList rfl hcc hr4.m0 (by omega) (by simp only [maxLen] at hcm; omega))
      have hV := HV.out
      rw [rRec] at hV
      replace HV := Lib.hid hV
      clear h3 e4 hr4 hcc hcm hV
      have HPm := Lib.hid (show psM s.data.toList ≤ 65538 by
        rw [psM]
        split
        · have h1 := val_lt ((s.data.toList.drop 1).take 2)
          have h2 : ((s.data.toList.drop 1).take 2).length ≤ 2 := by rw [List.length_take]; omega
          have h3 : 256 ^ ((s.data.toList.drop 1).take 2).length ≤ 256 ^ 2 := Nat.pow_le_pow_right (by decide) h2
          have h4 : psN s.data.toList = val ((s.data.toList.drop 1).take 2) := rfl
          omega
        · omega)
      go_upto_region 3 with fail
      go_wp2_with fail
      refine HPs.out.mono ?_
      rintro e w5 ⟨y, rfl, hy1, hy2, hy3, e5⟩
      have HA := Lib.hid (psA_okc s.data.toList)
      have HAb := Lib.hid (psA_bare _ y hy1)
      rw [← hy1] at HA HAb HV
      have HR := Lib.hid (HH.out.more (L2 := [(y.oA, prps y.own)]) e5 (fun q hq => by
        obtain rfl := List.mem_singleton.1 hq
        exact hy3))
      have HY := Lib.hid hy2
      have hm := HPm.out
      generalize psM s.data.toList = pm at *
      generalize psE s.data.toList = pe at *
      clear hy1 hy2 hy3 e5 HPs HPm HH
      obtain ⟨A2, c2, S2, L2, _, _, H, hB⟩ := HR.out.open
      have HH := Lib.hid H
      have HB := Lib.hid hB
      clear H hB HR
      obtain ⟨kind, rnm, frm, guid, oA, on, oc, own, index, count, data, s0, s1, s2, s3⟩ := y
      simp only [Rec.cells] at HH ⊢
      (try dsimp only at HY)
      (try dsimp only at HB)
      go_upto_region 4 with (refine shl_store (HH.out.alloc _ _) sizeRec rfl rfl rfl rfl 0 rfl rfl rfl rfl ?_; clear HH; intro wS HHS; have HH := Lib.hid HHS; clear HHS)
      obtain ⟨pb, hpb⟩ : ∃ b, b = w5.heap.size := ⟨_, rfl⟩
      rw [← hpb] at HH ⊢
      clear hpb
      have HR := Lib.hid (show RS w0 b (.box pb [.int .i64 kind, .string rnm, .int .i64 frm, .int .i64 guid, .slice oA on oc, .int .i64 index, .int .i64 count, .string data, .int .u64 s0, .int .u64 s1, .int .u64 s2, .int .u64 s3] :: .box rb _ :: .box ob _ :: its) _ us wS from HB.out _ _ HH.out.in2)
      clear HB HH
      by_cases hok : pe = 0 ∧ pm = s.size
      · obtain ⟨rfl, rfl⟩ := hok
        have hV := HV.out
        rw [if_pos ⟨rfl, rfl⟩, Option.bind_some] at hV
        replace HV := Lib.hid hV
        clear hV
        replace HA := Lib.hid (HA.out rfl)
        go_wp2_with fail
        refine (wneed_true _ 21).mono ?_
        rintro e wN ⟨rfl, rfl⟩
        (try dsimp only at HV)
        go_upto_region 5 with fail
        replace HR := Lib.hid (HR.out.later (Ext.drew (Ext.refl _)))
        refine rgnM (fun z => true) (S := Heap w0 [.box pb [.int .i64 kind, .string rnm, .int .i64 frm, .int .i64 guid, .slice oA on oc, .int .i64 index, .int .i64 count, .string data, .int .u64 s0, .int .u64 s1, .int .u64 s2, .int .u64 s3]]) (by kernel_rfl) (HR.out.heap.only 0 rfl) (fun hHeld => ?_)
        generalize World.drew _ = wd at *
        refine tM 0 1 ?_
        refine mG 1 rfl (fun wT hST => sh_run_load hST sizeRec (by kernel_rfl) rfl rfl 0 rfl (Nat.le_of_ble_eq_true rfl)) hHeld ?_
        (try simp only [Act.put, lyA, lyB, lyC])
        refine tM 2 1 ?_
        refine tM 4 1 ?_
        refine tM 6 1 ?_
        clear hHeld
        refine twoM 3 9 rfl rfl (by kernel_rfl) (by kernel_rfl) (by kernel_rfl) (fun K hK => ?_) (fun K hK => ?_)
        focus
          go_simp
          refine rd_call HV (ro_body HR.out) (fun w' h1 h2 => by subst h1; exact ⟨rfl, rfl, h2.tail.tail.tail⟩) ?_
          rintro bd us e wE HV ⟨b9, bA, bc, rfl, q1, q2, h⟩
          replace HR := Lib.hid h
          clear h
          (try dsimp only at HV)
          go_wp2_with fail
          refine hK.out _ _ (HR.out.heap.only 0 rfl) (fun hHeld => ?_)
          clear hK K hHeld
          (try simp only [Act.put, lyA, lyB, lyC])
          refine twoM 5 9 rfl rfl (by kernel_rfl) (by kernel_rfl) (by kernel_rfl) (fun K hK => ?_) (fun K hK => ?_)
          focus
            go_simp
            refine rd_call HV (ro_amt HR.out) (fun w' h1 h2 => by subst h1; exact ⟨rfl, rfl, h2.tail.tail.tail⟩) ?_
            rintro at_ us e wE HV ⟨t0, t1, rfl, h⟩
            replace HR := Lib.hid h
            clear h
            (try dsimp only at HV)
            go_wp2_with fail
            refine hK.out _ _ (HR.out.heap.only 0 rfl) (fun hHeld => ?_)
            clear hK K hHeld
            (try simp only [Act.put, lyA, lyB, lyC])
            refine twoM 7 9 rfl rfl (by kernel_rfl) (by kernel_rfl) (by kernel_rfl) (fun K hK => ?_) (fun K hK => ?_)
            focus
              go_simp
              refine rd_call HV (ro_amt HR.out) (fun w' h1 h2 => by subst h1; exact ⟨rfl, rfl, h2.tail.tail.tail⟩) ?_
              rintro nx us e wE HV ⟨x0, x1, rfl, h⟩
              replace HR := Lib.hid h
              clear h
              (try dsimp only at HV)
              go_wp2_with fail
              refine hK.out _ _ (HR.out.heap.only 0 rfl) (fun hHeld => ?_)
              clear hK K hHeld
              (try simp only [Act.put, lyA, lyB, lyC])
              have hHeld := HR.out.heap.only 0 rfl
              refine tM 8 1 ?_
              clear hHeld
              refine oneM 9 rfl (by kernel_rfl) (by kernel_rfl) (fun K hK => ?_)
              go_simp
              generalize hwA : World.alloc _ _ = wA
              replace HR := Lib.hid (HR.out.push fun l h => h.allocE hwA)
              clear hwA
              obtain ⟨xb, hxb⟩ : ∃ b, b = wE.heap.size := ⟨_, rfl⟩
              rw [← hxb] at HR ⊢
              clear hxb
              refine hK.out _ _ (HR.out.heap.only 1 rfl) (fun hHeld => ?_)
              clear hK K hHeld
              (try simp only [Act.put, lyA, lyB, lyC])
            rotate_left 1
            focus
              go_simp
              generalize hwA : World.alloc _ _ = wA
              replace HR := Lib.hid (HR.out.push fun l h => h.allocE hwA)
              clear hwA
              obtain ⟨xb, hxb⟩ : ∃ b, b = wE.heap.size := ⟨_, rfl⟩
              rw [← hxb] at HR ⊢
              clear hxb
              refine hK.out _ _ (HR.out.heap.only 1 rfl) (fun hHeld => ?_)
              clear hK K hHeld
              (try simp only [Act.put, lyA, lyB, lyC])
              refine oneM 7 rfl (by kernel_rfl) (by kernel_rfl) (fun K hK => ?_)
              go_simp
              refine rd_call HV (ro_amt HR.out) (fun w' h1 h2 => by subst h1; exact ⟨rfl, rfl, h2.tail.tail.tail.tail⟩) ?_
              rintro nx us e wE HV ⟨x0, x1, rfl, h⟩
              replace HR := Lib.hid h
              clear h
              (try dsimp only at HV)
              go_wp2_with fail
              refine hK.out _ _ (HR.out.heap.only 1 rfl) (fun hHeld => ?_)
              clear hK K hHeld
              (try simp only [Act.put, lyA, lyB, lyC])
              have hHeld := HR.out.heap.only 1 rfl
              refine tM 8 1 ?_
              clear hHeld
          rotate_left 2
          focus
            go_simp
            generalize hwA : World.alloc _ _ = wA
            replace HR := Lib.hid (HR.out.push fun l h => h.allocE hwA)
            clear hwA
            obtain ⟨xb, hxb⟩ : ∃ b, b = wE.heap.size := ⟨_, rfl⟩
            rw [← hxb] at HR ⊢
            clear hxb
            refine hK.out _ _ (HR.out.heap.only 1 rfl) (fun hHeld => ?_)
            clear hK K hHeld
            (try simp only [Act.put, lyA, lyB, lyC])
            refine oneM 5 rfl (by kernel_rfl) (by kernel_rfl) (fun K hK => ?_)
            go_simp
            refine rd_call HV (ro_amt HR.out) (fun w' h1 h2 => by subst h1; exact ⟨rfl, rfl, h2.tail.tail.tail.tail⟩) ?_
            rintro at_ us e wE HV ⟨t0, t1, rfl, h⟩
            replace HR := Lib.hid h
            clear h
            (try dsimp only at HV)
            go_wp2_with fail
            refine hK.out _ _ (HR.out.heap.only 1 rfl) (fun hHeld => ?_)
            clear hK K hHeld
            (try simp only [Act.put, lyA, lyB, lyC])
            refine oneM 7 rfl (by kernel_rfl) (by kernel_rfl) (fun K hK => ?_)
            go_simp
            refine rd_call HV (ro_amt HR.out) (fun w' h1 h2 => by subst h1; exact ⟨rfl, rfl, h2.tail.tail.tail.tail⟩) ?_
            rintro nx us e wE HV ⟨x0, x1, rfl, h⟩
            replace HR := Lib.hid h
            clear h
            (try dsimp only at HV)
            go_wp2_with fail
            refine hK.out _ _ (HR.out.heap.only 1 rfl) (fun hHeld => ?_)
            clear hK K hHeld
            (try simp only [Act.put, lyA, lyB, lyC])
            have hHeld := HR.out.heap.only 1 rfl
            refine tM 8 1 ?_
            clear hHeld
        rotate_left 3
        focus
          go_simp
          generalize hwA : World.alloc _ _ = wA
          replace HR := Lib.hid (HR.out.push fun l h => h.allocE hwA)
          clear hwA
          obtain ⟨xb, hxb⟩ : ∃ b, b = wd.heap.size := ⟨_, rfl⟩
          rw [← hxb] at HR ⊢
          clear hxb
          refine hK.out _ _ (HR.out.heap.only 1 rfl) (fun hHeld => ?_)
          clear hK K hHeld
          (try simp only [Act.put, lyA, lyB, lyC])
          refine oneM 3 rfl (by kernel_rfl) (by kernel_rfl) (fun K hK => ?_)
          go_simp
          refine rd_call HV (ro_body HR.out) (fun w' h1 h2 => by subst h1; exact ⟨rfl, rfl, h2.tail.tail.tail.tail⟩) ?_
          rintro bd us e wE HV ⟨b9, bA, bc, rfl, q1, q2, h⟩
          replace HR := Lib.hid h
          clear h
          (try dsimp only at HV)
          go_wp2_with fail
          refine hK.out _ _ (HR.out.heap.only 1 rfl) (fun hHeld => ?_)
          clear hK K hHeld
          (try simp only [Act.put, lyA, lyB, lyC])
          refine oneM 5 rfl (by kernel_rfl) (by kernel_rfl) (fun K hK => ?_)
          go_simp
          refine rd_call HV (ro_amt HR.out) (fun w' h1 h2 => by subst h1; exact ⟨rfl, rfl, h2.tail.tail.tail.tail⟩) ?_
          rintro at_ us e wE HV ⟨t0, t1, rfl, h⟩
          replace HR := Lib.hid h
          clear h
          (try dsimp only at HV)
          go_wp2_with fail
          refine hK.out _ _ (HR.out.heap.only 1 rfl) (fun hHeld => ?_)
          clear hK K hHeld
          (try simp only [Act.put, lyA, lyB, lyC])
          refine oneM 7 rfl (by kernel_rfl) (by kernel_rfl) (fun K hK => ?_)
          go_simp
          refine rd_call HV (ro_amt HR.out) (fun w' h1 h2 => by subst h1; exact ⟨rfl, rfl, h2.tail.tail.tail.tail⟩) ?_
          rintro nx us e wE HV ⟨x0, x1, rfl, h⟩
          replace HR := Lib.hid h
          clear h
          (try dsimp only at HV)
          go_wp2_with fail
          refine hK.out _ _ (HR.out.heap.only 1 rfl) (fun hHeld => ?_)
          clear hK K hHeld
          (try simp only [Act.put, lyA, lyB, lyC])
          have hHeld := HR.out.heap.only 1 rfl
          refine tM 8 1 ?_
          clear hHeld
        all_goals
          refine freeM 10 rfl (by kernel_rfl) (by kernel_rfl) (by kernel_rfl) (fun K hK => ?_)
          obtain ⟨A2, c2, S2, L2, _, _, H, hB⟩ := HR.out.open
          refine sh_store H sizeStg rfl rfl rfl 2 rfl rfl (Nat.le_of_ble_eq_true rfl) rfl ?_
          intro wF hF
          refine hK.out _ _ ?_; clear hK K; (try simp only [Act.put, lyA, lyB, lyC])
          refine doneM (by kernel_rfl) ?_
          replace HR := Lib.hid (show RS w0 b (.box xb [.string path, .int .i64 kind, .string rnm, .int .i64 frm, .int .i64 guid, .slice oA on oc, .int .i64 index, .int .i64 count, .string data, .int .u64 s0, .int .u64 s1, .int .u64 s2, .int .u64 s3, .slice bA bd.length bc, .int .i64 at_, .int .i64 nx, .int .u64 0, .int .u64 0, .int .u64 0, .int .u64 0, .bool false] :: .box pb _ :: .box rb _ :: .box ob _ :: its) _ us wF from hB _ _ hF)
          have HQ := Lib.hid (And.intro b9 (And.intro q1 q2))
          clear H hB hF b9 q1 q2
          go_wp2_with fail
          cases us with
          | nil =>
            have hV := HV.out
            rw [rSum, Option.bind_none] at hV
            subst hV
            refine (rtext_bad HR.out).mono ?_
            rintro e w9 ⟨rfl, h9⟩
            exact ⟨rfl, rfl, h9.tail.tail.tail.tail⟩
          | cons s9 us =>
            have hs := HR.out.small.2 s9 (List.mem_cons_self ..)
            refine (rtext_ok HR.out).mono ?_
            rintro e w9 ⟨rfl, h9⟩
            obtain ⟨cc, w10, hcv, e10, hr10, hcc, hcm⟩ := conv_bytes2 w9 s9 (by omega)
            replace HR := Lib.hid (h9.later e10)
            have HFr := Lib.hid (fread_any w10 _ s9.size cc s9.data.toList rfl hcc hr10.m0 (by omega) (by simp only [maxLen] at hcm; omega))
            have HSw := Lib.hid (sumOf_wf s9.data.toList)
            have hV := HV.out
            rw [rSum] at hV
            replace HV := Lib.hid hV
            generalize sumOf s9.data.toList = su at *
            generalize sumE s9.data.toList = sE at *
            clear h9 e10 hr10 hcc hcm hV
            go_wp2_with fail
            refine HFr.out.mono ?_
            rintro e w11 ⟨rfl, e11⟩
            obtain ⟨A2, c2, S2, L2, _, _, H, hB⟩ := (HR.out.later e11).open
            have HH := Lib.hid H
            have HB := Lib.hid hB
            clear H hB HR HFr e11
            obtain ⟨ua, ub, uc, ud⟩ := su
            simp only [Su.cells]
            go_upto_region 7 with (first | (refine shl_store HH.out sizeSu rfl rfl rfl rfl 2 rfl rfl rfl rfl ?_; clear HH; intro wS HHS; have HH := Lib.hid HHS; clear HHS))
            have HR := Lib.hid (show RS w0 b (.box xb [.string path, .int .i64 kind, .string rnm, .int .i64 frm, .int .i64 guid, .slice oA on oc, .int .i64 index, .int .i64 count, .string data, .int .u64 s0, .int .u64 s1, .int .u64 s2, .int .u64 s3, .slice bA bd.length bc, .int .i64 at_, .int .i64 nx, .int .u64 ua, .int .u64 ub, .int .u64 uc, .int .u64 ud, .bool false] :: .box pb _ :: .box rb _ :: .box ob _ :: its) _ us wS from HB.out _ _ HH.out)
            clear HB HH
            by_cases hsE : sE = 0
            · subst hsE
              have hV := HV.out
              rw [if_pos rfl, Option.bind_some] at hV
              replace HV := Lib.hid hV
              clear hV
              go_wp2_with fail
              refine (wneed_true _ 21).mono ?_
              rintro e wN ⟨rfl, rfl⟩
              (try dsimp only at HV)
              go_wp2_with fail
              refine rd_call HV (ro_num HR.out 1) (fun w' h1 h2 => by subst h1; exact ⟨rfl, rfl, h2.tail.tail.tail.tail⟩) ?_
              rintro qv us e wE HV ⟨v0, v1, rfl, h⟩
              obtain ⟨A2, c2, S2, L2, _, _, H, hB⟩ := h.open
              have HH := Lib.hid H
              have HB := Lib.hid hB
              clear H hB h HR
              (try dsimp only at HV)
              go_upto_region 9 with (refine shl_store1 HH.out rfl rfl rfl rfl 2 rfl rfl rfl (by kernel_rfl) ?_; clear HH; intro wS HHS; have HH := Lib.hid HHS; clear HHS)
              have HR := Lib.hid (show RS w0 b (.box xb [.string path, .int .i64 kind, .string rnm, .int .i64 frm, .int .i64 guid, .slice oA on oc, .int .i64 index, .int .i64 count, .string data, .int .u64 s0, .int .u64 s1, .int .u64 s2, .int .u64 s3, .slice bA bd.length bc, .int .i64 at_, .int .i64 nx, .int .u64 ua, .int .u64 ub, .int .u64 uc, .int .u64 ud, .bool (qv == 1)] :: .box pb _ :: .box rb _ :: .box ob _ :: its) _ us wS from HB.out _ _ HH.out)
              clear HB HH
              go_wp2_with fail
              refine rd_call HV (ro_done HR.out) (fun w' h1 h2 => by subst h1; exact ⟨rfl, rfl, h2.tail.tail.tail.tail⟩) ?_
              rintro _ us e wE HV ⟨rfl, h⟩
              have hV := HV.out
              subst hV
              obtain ⟨A2, c2, S2, L2, _, hL2, H, hB⟩ := h.open
              have HH := Lib.hid H
              have HB := Lib.hid hB
              clear H hB h HR
              go_wp2_with (first | (refine shl_load HH.out sizeStg (by kernel_rfl) rfl rfl rfl 2 rfl rfl ?_) | (refine shl_store HH.out sizeStg rfl rfl rfl rfl 4 rfl rfl rfl rfl ?_; clear HH; intro wS HHS; have HH := Lib.hid HHS; clear HHS))
              refine ret_cell sizeStg (by kernel_rfl) HH.out rfl rfl 4 rfl rfl rfl ?_
              obtain ⟨S9, L9, hL9, H9⟩ := (HB.out _ _ HH.out).drop.drop.drop.drop.leave
              have hq := HQ.out
              obtain ⟨d1, d2⟩ := bk_small _ hq.1.1
              have hok := okc_bare (x := ⟨kind, rnm, frm, guid, oA, on, oc, own, index, count, data, s0, s1, s2, s3⟩) (y := Rec.bare ⟨kind, rnm, frm, guid, oA, on, oc, own, index, count, data, s0, s1, s2, s3⟩) rfl HA.out
              refine ⟨⟨path, ⟨kind, rnm, frm, guid, oA, on, oc, own, index, count, data, s0, s1, s2, s3⟩, bA, bd.length, bc, bd, at_, nx, ⟨ua, ub, uc, ud⟩, qv == 1⟩, S9, L9, rfl, rfl, ⟨hL9 _ (by simp), HY.out, rfl, hq.2, hL9 _ (by simp)⟩, ⟨HPt.out, okc_wf hok HY.out, ?_, hok.sum, Nat.le_trans d1 (by decide), hq.1.2, wf_int t0 (Int.le_trans t1 (by decide)), wf_int x0 (Int.le_trans x1 (by decide)), HSw.out⟩, H9⟩
              have := hok.own
              have h9 := HY.out
              show on ≤ 1048576
              (try dsimp only at this)
              omega
            · have hV := HV.out
              rw [if_neg hsE, Option.bind_none] at hV
              subst hV
              have hd : (sE == 0) = false := by simpa using hsE
              go_wp2_with fail
              refine (tneed_false _ 21).mono ?_
              rintro e wN ⟨rfl, rfl⟩
              exact ⟨rfl, rfl, HR.out.heap.tail.tail.tail.tail⟩
      · have hV := HV.out
        rw [if_neg hok, Option.bind_none] at hV
        subst hV
        by_cases hp0 : pe = 0
        · have hd : ((pm : Int) == (s.size : Int)) = false := by
            have : pm ≠ s.size := fun h => hok ⟨hp0, h⟩
            simp; omega
          subst hp0
          go_wp2_with fail
          refine (tneed_false _ 21).mono ?_
          rintro e wN ⟨rfl, rfl⟩
          exact ⟨rfl, rfl, HR.out.heap.tail.tail.tail⟩
        · have hd : (pe == 0) = false := by simpa using hp0
          go_wp2_with fail
          refine (tneed_false _ 21).mono ?_
          rintro e wN ⟨rfl, rfl⟩
          exact ⟨rfl, rfl, HR.out.heap.tail.tail.tail⟩
  · rw [TopO, if_neg hE] at h
    obtain ⟨rfl, h⟩ := h
    have hV := HV.out
    rw [if_neg hE] at hV
    subst hV
    exact ⟨rfl, rfl, h.tail.tail⟩
open Go.RowKit
set_option linter.unusedVariables false
set_option linter.unusedSimpArgs false
theorem infoS : (Tryz.prog.info? 9).map (fun i => (i.zero, i.size, i.bytes)) = some (some (.string .empty), 1, 16) := by kernel_rfl
theorem cut_data (s : ByteArray) (a b : Nat) : (s.extract a b).data.toList = (s.data.toList.take b).drop a := by
  rw [ByteArray.data_extract, Array.toList_extract, List.extract_eq_take_drop, List.take_drop]
  by_cases h : a ≤ b
  · rw [Nat.add_sub_cancel' h]
  · have h1 : b - a = 0 := by omega
    rw [h1, Nat.add_zero, List.drop_eq_nil_of_le (by simp; omega), List.drop_eq_nil_of_le (by simp; omega)]
def PartsOk (s : ByteArray) (w : World) (e : Ending) (w' : World) : Prop :=
  ∃ (ps : List ByteArray) (v : Value), e = .returned v ∧ ps.map (·.data.toList) = parts s.data.toList ∧ w'.ownsRow w.heap.size 9 1 v ps.length (ps.map Value.string) ∧ Ext w w'
theorem go_on (s : ByteArray) (t k : Nat) (hk : k < s.size) (ht : t ≤ k) (out : List ByteArray) (h : parts s.data.toList = out.map (·.data.toList) ++ partsGo ((s.data.toList.take k).drop t) (s.data.toList.drop k)) :
    (s[k]'hk ≠ 47 → parts s.data.toList = out.map (·.data.toList) ++ partsGo ((s.data.toList.take (k + 1)).drop t) (s.data.toList.drop (k + 1))) ∧
    (s[k]'hk = 47 → parts s.data.toList = (out ++ [s.extract t k]).map (·.data.toList) ++ partsGo ((s.data.toList.take (k + 1)).drop (k + 1)) (s.data.toList.drop (k + 1))) := by
  have hl : k < s.data.toList.length := by rw [len_data]; exact hk
  have hg : s.data.toList[k]'hl = s[k]'hk := rfl
  rw [List.drop_eq_getElem_cons hl, partsGo, hg] at h
  constructor
  · intro hn
    rw [if_neg hn] at h
    rw [h, List.take_succ_eq_append_getElem hl, List.drop_append_of_le_length (by rw [List.length_take]; omega), hg]
  · intro he
    rw [if_pos he] at h
    have z : (s.data.toList.take (k + 1)).drop (k + 1) = [] := List.drop_eq_nil_of_le (by rw [List.length_take]; omega)
    rw [h, List.map_append, List.map_cons, List.map_nil, cut_data, List.append_assoc, List.singleton_append, z]
theorem go_end (s : ByteArray) (t : Nat) (out : List ByteArray) (h : parts s.data.toList = out.map (·.data.toList) ++ partsGo ((s.data.toList.take s.size).drop t) (s.data.toList.drop s.size)) : (out ++ [s.extract t s.size]).map (·.data.toList) = parts s.data.toList := by
  have z : s.data.toList.drop s.size = [] := List.drop_eq_nil_of_le (by rw [len_data]; exact Nat.le_refl _)
  rw [z, partsGo] at h
  rw [h, List.map_append, List.map_cons, List.map_nil, cut_data]
set_option maxRecDepth 100000 in
set_option maxHeartbeats 2000000 in
theorem rparts_any (s : ByteArray) (w : World) (hs : s.size < 4294967281) : Calls Tryz.prog 134 #[.string s, .int .u8 47] w (PartsOk s w) := by
  obtain ⟨i0, hi0, hz0, hz1, hz2⟩ := info_parts infoS
  have HB := Lib.hid (go_on s)
  have HE := Lib.hid (go_end s)
  go_enter Tryz.func134, Tryz.ntmps134
  go_wp2_with fail
  go_loopw [5, 6, 7] (fun o a i wr => ∃ (k t : Nat) (out : List ByteArray), k ≤ s.size ∧ i = .int .i64 k ∧ a = .int .i64 t ∧ t ≤ k ∧ out.length ≤ k ∧
    wr.ownsRow w.heap.size 9 1 o out.length (out.map Value.string) ∧ parts s.data.toList = out.map (·.data.toList) ++ partsGo ((s.data.toList.take k).drop t) (s.data.toList.drop k) ∧ Ext w wr) (fun _ _ i _ => s.size - (intOf i).toNat)
  case atStart => exact ⟨0, 0, [], Nat.zero_le _, rfl, rfl, Nat.le_refl _, Nat.le_refl _, World.ownsRow_nil _ _ _ _, rfl, Ext.refl _⟩
  case round =>
    obtain ⟨k, t, out, hk, rfl, rfl, ht, hol, hown0, hrun, e1⟩ := hrel
    have hown := Lib.hid hown0
    clear hown0
    have HR := Lib.hid hrun
    clear hrun
    by_cases hlt : k < s.size
    · obtain ⟨G1, G2⟩ := HB.out t k hlt ht out HR.out
      have H1 := Lib.hid G1
      have H2 := Lib.hid G2
      clear G1 G2
      obtain ⟨y, hy⟩ : ∃ y, s[k]'hlt = y := ⟨_, rfl⟩
      rw [hy] at H1 H2
      by_cases h47 : y = 47
      · subst h47
        have H3 := Lib.hid (H2.out rfl)
        clear H1 H2
        have HO := Lib.hid (show (out.length + 1) * 16 ≤ 140737488355328 by omega)
        have HO2 := Lib.hid (show w.heap.size ≤ (wr.alloc (.cells #[.string (s.extract t k)] 9)).heap.size by have := e1.size; simp; omega)
        go_upto_region 7 with fail
        iterate 60 (first | at_builtin | go_step)
        refine list_app _ rfl (.tmp 19) (.tmp 24) _ rfl 9 i0 _ 1 16 Tryz.underlying109 hi0 hz0 hz1 hz2 rfl (by omega) _ _ out.length _ rfl (hown.out.alloc _) 0 _ _ 1 1 [.string (s.extract t k)] rfl rfl
          ((rd_new _ _ _).m0) (by simp [Value.oneCell']) (by have := HO.out; simp only [maxLen]; omega) HO.out HO2.out ?_
        intro v7 w7 hown7 he7 _ _
        have e9 : Ext w w7 := he7 _ (e1.alloc _) (Nat.le_refl _)
        clear he7 hown
        go_wp2_with fail
        go_roundw
        case rel =>
          refine ⟨k + 1, k + 1, out ++ [s.extract t k], by omega, by go_num, by go_num, by omega, ?_, ?_, H3.out, e9⟩
          · rw [List.length_append]; simp; omega
          · rw [List.length_append, List.map_append]; exact hown7
        case measure => simp [intOf]; omega
      · have H3 := Lib.hid (H1.out h47)
        have hb : ¬ y.toNat = 47 := fun e => h47 (UInt8.toNat_inj.1 e)
        clear H1 H2
        go_wp2_with fail
        go_roundw
        case rel => exact ⟨k + 1, t, out, by omega, by go_num, rfl, by omega, by omega, hown.out, H3.out, e1⟩
        case measure => simp [intOf]; omega
    · obtain rfl : k = s.size := by omega
      have H3 := Lib.hid (HE.out t out HR.out)
      have HO := Lib.hid (show (out.length + 1) * 16 ≤ 140737488355328 by omega)
      have HO2 := Lib.hid (show w.heap.size ≤ (wr.alloc (.cells #[.string (s.extract t s.size)] 9)).heap.size by have := e1.size; simp; omega)
      go_upto_region 9 with fail
      iterate 60 (first | at_builtin | go_step)
      refine list_app _ rfl (.tmp 28) (.tmp 32) _ rfl 9 i0 _ 1 16 Tryz.underlying109 hi0 hz0 hz1 hz2 rfl (by omega) _ _ out.length _ rfl (hown.out.alloc _) 0 _ _ 1 1 [.string (s.extract t s.size)] rfl rfl
        ((rd_new _ _ _).m0) (by simp [Value.oneCell']) (by have := HO.out; simp only [maxLen]; omega) HO.out HO2.out ?_
      intro v7 w7 hown7 he7 _ _
      have e9 : Ext w w7 := he7 _ (e1.alloc _) (Nat.le_refl _)
      clear he7 hown
      go_wp2_with fail
      go_ret
      refine ⟨out ++ [s.extract t s.size], v7, rfl, H3.out, ?_, e9⟩
      rw [List.length_append, List.map_append]; exact hown7
set_option maxRecDepth 100000 in
set_option maxHeartbeats 1000000 in
theorem rpath_any (s : ByteArray) (w : World) (hs : s.size < 4294967281) : Calls Tryz.prog 73 #[.string s] w fun e w' => e = .returned (.bool (pathB s)) ∧ Ext w w' := by
  by_cases h0 : s.size = 0
  · obtain rfl := empty_of s h0
    have hv := Lib.hid (show pathB ⟨#[]⟩ = true from rfl)
    go_enter Tryz.func73, Tryz.ntmps73
    go_wp2_with fail
    go_ret
    exact ⟨by rw [hv.out]; rfl, Ext.refl _⟩
  · have HS := Lib.hid (rparts_any s w hs)
    have b0 : s.toList.isEmpty = false := by
      rw [ByteArray.toList_eq, List.isEmpty_eq_false_iff]
      intro e
      have := len_data s
      rw [e] at this
      exact h0 this.symm
    have HP := Lib.hid (fun ps hp => pathB_of s (by omega) ps hp)
    have HF := Lib.hid (parts_fit s (by omega))
    have HL := Lib.hid (parts_len s)
    have HB := Lib.hid hs
    clear hs
    go_enter Tryz.func73, Tryz.ntmps73
    go_wp2_with fail
    refine HS.out.mono ?_
    rintro e w2 ⟨ps, v, rfl, hp, hown, e2⟩
    have hv := Lib.hid (HP.out ps hp)
    have hf := Lib.hid (HF.out ps hp)
    have hl := Lib.hid (HL.out ps hp)
    clear hp
    obtain ⟨A, c, rfl, hc, hc2, _⟩ := own_form hown
    have HR := Lib.hid (Rd.of_own hown)
    clear hown
    have hbig : ps.length ≤ 4294967299 := by have := hl.out; have := HB.out; omega
    go_wp2_with fail
    go_loopw [4] (fun i wr => ∃ k : Nat, k ≤ ps.length ∧ i = .int .i64 k ∧ (ps.take k).any noName = false ∧ Ext w2 wr) (fun i _ => ps.length - (intOf i).toNat)
    case atStart => exact ⟨0, Nat.zero_le _, rfl, rfl, Ext.refl _⟩
    case round =>
      obtain ⟨k, hk, rfl, hno, e3⟩ := hrel
      have HK := Lib.hid hno
      clear hno
      by_cases hlt : k < ps.length
      · obtain ⟨b1, o1, rfl, _, _, f0⟩ := rd_str (HR.out.ext e3 (Nat.le_refl _)) (k := k) (by omega)
        obtain ⟨y, hy⟩ : ∃ y, y = ps[k]'hlt := ⟨_, rfl⟩
        rw [← hy] at f0
        have HY := Lib.hid hy
        clear hy
        have HLT := Lib.hid hlt
        go_wp2_with fail
        refine (rname_any y _ (by have := hf.out y (by rw [HY.out]; exact List.getElem_mem _); exact this)).mono ?_
        rintro e w4 ⟨rfl, e4⟩
        cases ho : nameB y
        · have hq : pathB s = false := by
            rw [hv.out]
            have h1 : ps.any noName = true := List.any_eq_true.2 ⟨y, by rw [HY.out]; exact List.getElem_mem _, by rw [noName, ho]; rfl⟩
            rw [h1]
            simp
          have hv := Lib.hid hq
          clear hq
          go_wp2_with fail
          go_ret
          exact ⟨by rw [hv.out]; rfl, blo⟩
        · go_wp2_with fail
          go_roundw
          case rel =>
            refine ⟨k + 1, HLT.out, by go_num, ?_, blo⟩
            rw [List.take_succ_eq_append_getElem hlt, List.any_append, HK.out, ← HY.out]
            simp [noName, ho]
          case measure => (have := HLT.out; simp [intOf]; omega)
      · obtain rfl : k = ps.length := by omega
        have h1 := HK.out
        rw [List.take_of_length_le (Nat.le_refl _)] at h1
        have hq : pathB s = decide (ps.length ≤ 4) := by rw [hv.out, h1]; simp
        have hv := Lib.hid hq
        clear hq h1
        by_cases h4 : ps.length ≤ 4
        · have hd : decide ((ps.length : Int) ≤ 4) = true := by simp; omega
          have hq : pathB s = true := by rw [hv.out, decide_eq_true h4]
          have hv := Lib.hid hq
          clear hq
          go_wp2_with fail
          go_ret
          exact ⟨by rw [hv.out]; rfl, blo⟩
        · have hd : decide ((ps.length : Int) ≤ 4) = false := by simp; omega
          have hq : pathB s = false := by rw [hv.out, decide_eq_false h4]
          have hv := Lib.hid hq
          clear hq
          go_wp2_with fail
          go_ret
          exact ⟨by rw [hv.out]; rfl, blo⟩
end Go.Proofs.YtckaneapjpiocaaGreatDoor
