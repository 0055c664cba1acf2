/- The texts Par, Prs, Ord, Step in one file. -/
import Derived.Test.YtmecjjmlccdppaaGreatDoorM28
import Derived.Test.YtmecjjmlccdppaaGreatDoorM8
import Derived.Deep.DeepCutAuto
/- record.Parse: the walk. -/
namespace Go.Proofs.YtmecjjmlccdppaaGreatDoor
open Go.RowKit
set_option linter.unusedVariables false
set_option linter.unusedSimpArgs false

theorem rd_small (l : List UInt8) : (rd l).2.length ≤ 1024 ∧ ∀ s ∈ (rd l).2, s.size ≤ 65536 := by
  by_cases h : (rd l).1 = 0
  · have h1 := rd_back l (rd l).2 (by rw [← h])
    exact (wE_zero _).1 h1.1
  · rw [rd_none l h]
    exact ⟨Nat.zero_le _, fun s hs => by cases hs⟩
theorem numV_bd (l : List UInt8) : 0 ≤ numV l ∧ numV l ≤ 4611686018427387903 := by
  unfold numV
  split
  · decide
  · split
    · decide
    · split
      · decide
      · omega
theorem fV_bd (s : ByteArray) : 0 ≤ fV s ∧ fV s ≤ 4611686018427387903 := by
  unfold fV
  split
  · decide
  · split
    · decide
    · exact numV_bd _
/-- what is said of a record's contents, whatever its memory -/
structure Rec.okc (x : Rec) : Prop where
  frm : -9223372036854775808 ≤ x.frm ∧ x.frm ≤ 9223372036854775807
  guid : -9223372036854775808 ≤ x.guid ∧ x.guid ≤ 9223372036854775807
  index : -9223372036854775808 ≤ x.index ∧ x.index ≤ 9223372036854775807
  count : -9223372036854775808 ≤ x.count ∧ x.count ≤ 9223372036854775807
  kind : -9223372036854775808 ≤ x.kind ∧ x.kind ≤ 9223372036854775807
  name : x.name.size ≤ 1000000
  data : x.data.size ≤ 1000000
  own : x.own.length ≤ 100000
  props : ∀ p ∈ x.own, p.name.size ≤ 1000000 ∧ p.value.size ≤ 1000000
  sum : (sumR x).wf
theorem okc_bare {x y : Rec} (h : x.bare = y.bare) (hy : y.okc) : x.okc := by
  obtain ⟨kind, name, frm, guid, oA, on, oc, own, index, count, data, s0, s1, s2, s3⟩ := x
  obtain ⟨kind', name', frm', guid', oA', on', oc', own', index', count', data', t0, t1, t2, t3⟩ := y
  simp only [Rec.bare, Rec.mk.injEq] at h
  obtain ⟨rfl, rfl, rfl, rfl, -, -, -, rfl, rfl, rfl, rfl, rfl, rfl, rfl, rfl⟩ := h
  exact ⟨hy.frm, hy.guid, hy.index, hy.count, hy.kind, hy.name, hy.data, hy.own, hy.props, hy.sum⟩
theorem okc_wf {x : Rec} (h : x.okc) (ho : x.on = x.own.length) : x.wf :=
  ⟨h.frm, h.guid, h.index, h.count, h.kind, Nat.le_trans h.name (by decide), Nat.le_trans h.data (by decide), ho, by have := h.own; omega, fun p hp => ⟨Nat.le_trans (h.props p hp).1 (by decide), Nat.le_trans (h.props p hp).2 (by decide)⟩⟩
theorem pairs_small : ∀ (n : Nat) (l : List ByteArray), l.length ≤ n → (∀ s ∈ l, s.size ≤ 1000000) → (pairs l).1.length ≤ l.length ∧ ∀ p ∈ (pairs l).1, p.name.size ≤ 1000000 ∧ p.value.size ≤ 1000000
  | _, [], _, _ => ⟨Nat.le_refl _, fun p hp => by simp [pairs] at hp⟩
  | _, [s], _, h => ⟨Nat.le_refl _, fun p hp => by
    simp [pairs] at hp
    subst hp
    exact ⟨h s (by simp), Nat.zero_le _⟩⟩
  | 0, s :: v :: r, hn, _ => by simp at hn
  | n + 1, s :: v :: r, hn, h => by
    have ih := pairs_small n r (by simp at hn; omega) (fun x hx => h x (by simp [hx]))
    refine ⟨by simp only [pairs, List.length_cons]; omega, fun p hp => ?_⟩
    simp only [pairs, List.mem_cons] at hp
    rcases hp with rfl | hp
    · exact ⟨h s (by simp), h v (by simp)⟩
    · exact ih.2 p hp
theorem stT_small {l : List ByteArray} {b : Bool} (h : ∀ s ∈ l, s.size ≤ 1000000) : (stT (l, b)).1.size ≤ 1000000 ∧ ∀ s ∈ (stT (l, b)).2.1, s.size ≤ 1000000 := by
  cases l with
  | nil => exact ⟨Nat.zero_le _, fun s hs => by simp [stT] at hs⟩
  | cons x r => exact ⟨h x (by simp), fun s hs => h s (by simp [stT] at hs; simp [hs])⟩
theorem part8_bd (l : List UInt8) (k : Nat) : 0 ≤ part8 l k ∧ part8 l k ≤ 18446744073709551615 := by
  unfold part8
  have h := val_lt ((l.drop (k * 8)).take 8)
  have h2 : ((l.drop (k * 8)).take 8).length ≤ 8 := by simp; omega
  have h3 : (256 : Nat) ^ ((l.drop (k * 8)).take 8).length ≤ 256 ^ 8 := Nat.pow_le_pow_right (by omega) h2
  have h4 : val ((l.drop (k * 8)).take 8) < 18446744073709551616 := Nat.lt_of_lt_of_le h h3
  omega
theorem sumOf_wf (l : List UInt8) : (sumOf l).wf := by
  unfold sumOf
  split
  · exact ⟨part8_bd l 0, part8_bd l 1, part8_bd l 2, part8_bd l 3⟩
  · unfold Su.wf Su.zero
    decide
theorem i64_of_fV (s : ByteArray) : -9223372036854775808 ≤ fV s ∧ fV s ≤ 9223372036854775807 := by have := fV_bd s; omega
theorem readA_okc (k : Int) (ts : List ByteArray) (hk : 0 ≤ k ∧ k ≤ 255) (hl : ts.length ≤ 2000) (hz : ∀ s ∈ ts, s.size ≤ 1000000) : (readA k ts).okc := by
  have z : -9223372036854775808 ≤ (0 : Int) ∧ (0 : Int) ≤ 9223372036854775807 := by decide
  have z0 : (sumR ⟨0, ⟨#[]⟩, 0, 0, none, 0, 0, [], 0, 0, ⟨#[]⟩, 0, 0, 0, 0⟩).wf := by unfold Su.wf; decide
  have hT := stT_small (b := true) hz
  have hkk : -9223372036854775808 ≤ k ∧ k ≤ 9223372036854775807 := by omega
  have e1 : -9223372036854775808 ≤ (1 : Int) ∧ (1 : Int) ≤ 9223372036854775807 := by decide
  have e2 : -9223372036854775808 ≤ (2 : Int) ∧ (2 : Int) ≤ 9223372036854775807 := by decide
  have e3 : -9223372036854775808 ≤ (3 : Int) ∧ (3 : Int) ≤ 9223372036854775807 := by decide
  have hp3 := pairs_small _ (stN (stN (stT (ts, true)).2).2).2.1 (Nat.le_refl _) (by
    have a1 := (stT_small (l := (stT (ts, true)).2.1) (b := (stT (ts, true)).2.2) hT.2).2
    exact (stT_small (l := (stN (stT (ts, true)).2).2.1) (b := (stN (stT (ts, true)).2).2.2) a1).2)
  have hlen : (stN (stN (stT (ts, true)).2).2).2.1.length ≤ ts.length := Nat.le_trans (stN_len _) (Nat.le_trans (stN_len _) (stT_len (ts, true)))
  unfold readA
  by_cases k1 : k = 1
  · rw [if_pos k1]
    refine ⟨i64_of_fV _, i64_of_fV _, z, z, e1, hT.1, Nat.zero_le _, ?_, ?_, z0⟩
    · dsimp only
      split
      · exact Nat.le_trans hp3.1 (Nat.le_trans hlen (Nat.le_trans hl (by decide)))
      · exact Nat.zero_le _
    · dsimp only
      split
      · exact hp3.2
      · intro p hp
        cases hp
  · rw [if_neg k1]
    by_cases k2 : k = 2
    · rw [if_pos k2]
      refine ⟨z, z, i64_of_fV _, z, e2, Nat.zero_le _, ?_, Nat.zero_le _, (fun p hp => (by cases hp)), z0⟩
      exact (stT_small (l := (stN (ts, true)).2.1) (b := (stN (ts, true)).2.2) hT.2).1
    · rw [if_neg k2]
      by_cases k3 : k = 3
      · rw [if_pos k3]
        exact ⟨z, z, i64_of_fV _, i64_of_fV _, e3, Nat.zero_le _, Nat.zero_le _, Nat.zero_le _, (fun p hp => (by cases hp)), z0⟩
      · rw [if_neg k3]
        exact ⟨z, z, z, z, hkk, Nat.zero_le _, Nat.zero_le _, Nat.zero_le _, (fun p hp => (by cases hp)), sumOf_wf _⟩
/-- what Parse tells of octets -/
def psN (l : List UInt8) : Nat := val ((l.drop 1).take 2)
def psT (l : List UInt8) : List UInt8 := (l.drop 3).take (psN l)
def psE (l : List UInt8) : Int :=
  match l with
  | [] => 8
  | b :: _ => if b.toNat < 1 ∨ 4 < b.toNat then 23 else if l.length < 3 then 8 else if l.length < 3 + psN l then 8
    else if (rd (psT l)).1 ≠ 0 ∨ readB b.toNat (rd (psT l)).2 = false then 33 else if recE (readA b.toNat (rd (psT l)).2) ≠ 0 then 9 else 0
def psA (l : List UInt8) : Rec := if psE l = 0 then readA ((l.headD 0).toNat) (rd (psT l)).2 else zeroR'
def psM (l : List UInt8) : Nat := if psE l = 0 then 3 + psN l else 0
def PsOut (w : World) (l : List UInt8) (e : Ending) (w' : World) : Prop :=
  ∃ y : Rec, e = .returned (.tuple #[.agg y.cells.toArray, .int .i64 (psM l), .int .i64 (psE l)]) ∧ y.bare = psA l ∧ y.on = y.own.length ∧ Rd w' w.heap.size w'.heap.size y.oA (prps y.own) ∧ Ext w w'
theorem psOut_zero {w w' : World} {l : List UInt8} {E : Int} (h : psE l = E) (hE : E ≠ 0) (e : Ext w w') : PsOut w l (.returned (.tuple #[.agg zeroR'.cells.toArray, .int .i64 0, .int .i64 E])) w' := by
  subst h
  exact ⟨zeroR', by rw [psM, if_neg hE]; rfl, by rw [psA, if_neg hE]; rfl, rfl, fun h => absurd rfl h, e⟩
section
variable {P : Program} {w0 w : World} {its : List It} {fn : Func} {R : Ending → World → Prop} {a : Act}
/-- a struct and two values are told -/
theorem ret_cell3 {t : TypeId} {x b p n y z : Nat} {vs : List Value} {v u : Value} (hs : (P.info? t).map (·.size) = some n) (hk : rowK P t = some true) (H : Heap w0 its w) (hres : fn.results = #[.cell x t, .tmp y, .tmp z]) (hx : a.tmps.getD x undef = .pointer (some ⟨b, p, none⟩)) (hy : a.tmps.getD y undef = v) (hz : a.tmps.getD z undef = u) (i : Nat) (hi : its[i]? = some (.box b vs)) (hl : Nat.ble (p + n) vs.length = true)
    (hd : a.defers = []) (hR : R (.returned (.tuple #[.agg ((vs.drop p).take n).toArray, v, u])) w) : bodyPost P fn R .ret a w := by
  refine ⟨hd, _, ?_, hR⟩
  have := sh_loadVar H hs hk i hi (Nat.le_of_ble_eq_true hl)
  have hx' : a.tmps[x]?.getD undef = .pointer (some ⟨b, p, none⟩) := by simpa using hx
  have hy' : a.tmps[y]?.getD undef = v := by simpa using hy
  have hz' : a.tmps[z]?.getD undef = u := by simpa using hz
  simp only [results, hres]
  simp [asAddr, hx', hy', hz', this]
end
end Go.Proofs.YtmecjjmlccdppaaGreatDoor
/- record.Parse: the walk. -/
namespace Go.Proofs.YtmecjjmlccdppaaGreatDoor
open Go.RowKit
set_option linter.unusedVariables false
set_option linter.unusedSimpArgs false

theorem byte_at {w : World} {lo hi b o : Nat} {l : List UInt8} {k : Nat} (h : Rd w lo hi (some ⟨b, o, none⟩) (bytes l)) (hk : k < l.length) : w.cell? ⟨b, o + k, none⟩ = some (.int .u8 l[k].toNat) := by
  obtain ⟨b1, o1, he, _, _, f0⟩ := rd_byte h hk
  cases he
  exact f0
theorem recE_of {y A : Rec} (h : y.bare = A) (ho : y.on = y.own.length) (hA : A.kind = 1 ∨ A.own = []) : recE y = recE A := by
  subst h
  obtain ⟨kind, name, frm, guid, oA, on, oc, own, index, count, data, s0, s1, s2, s3⟩ := y
  dsimp only at ho
  subst ho
  rcases hA with hA | hA
  · have hA' : kind = 1 := hA
    subst hA'
    rfl
  · have hA' : own = [] := hA
    subst hA'
    rfl
theorem readA_own (k : Int) (ts : List ByteArray) : (readA k ts).kind = 1 ∨ (readA k ts).own = [] := by
  unfold readA
  by_cases k1 : k = 1
  · rw [if_pos k1]; exact .inl rfl
  · rw [if_neg k1]
    by_cases k2 : k = 2
    · rw [if_pos k2]; exact .inr rfl
    · rw [if_neg k2]
      by_cases k3 : k = 3
      · rw [if_pos k3]; exact .inr rfl
      · rw [if_neg k3]; exact .inr rfl
set_option maxRecDepth 100000 in
set_option maxHeartbeats 8000000 in
theorem parse_any (w : World) (A : Option Addr) (n c : Nat) (l : List UInt8) (hn : n = l.length) (hnc : n ≤ c) (hr : Rd w 0 w.heap.size A (bytes l)) (hb : n ≤ 1000000000) (hc : c ≤ 9223372036854775807) :
    Calls Tryz.prog 50 #[.slice A n c] w (PsOut w l) := by
  rcases hl : l with _ | ⟨b, r⟩
  · subst hl
    obtain rfl : n = 0 := hn
    have HE := Lib.hid (show psE [] = 8 from rfl)
    clear hr hnc
    go_enter Tryz.func50, Tryz.ntmps50; go_upto_region 1 with fail; generalize hwH : World.alloc w _ = w1; have HH := Lib.hid (Heap.one hwH); clear hwH
    go_wp2_with (first | (refine shl_store HH.out sizeRec rfl rfl rfl rfl 0 rfl rfl rfl rfl ?_; clear HH; intro wS HHS; have HH := Lib.hid HHS; clear HHS)); refine ret_cell3 sizeRec (by kernel_rfl) HH.out rfl rfl rfl rfl 0 rfl rfl rfl ?_; exact psOut_zero HE.out (by decide) HH.out.ext
  · rw [← hl]
    obtain ⟨j0, hj0, hy0, hy1, hy2⟩ := info_parts info5
    have Hn := Lib.hid hn
    have HV := Lib.hid (show psE l = if b.toNat < 1 ∨ 4 < b.toNat then 23 else if l.length < 3 then 8 else if l.length < 3 + psN l then 8
      else if (rd (psT l)).1 ≠ 0 ∨ readB b.toNat (rd (psT l)).2 = false then 33 else if recE (readA b.toNat (rd (psT l)).2) ≠ 0 then 9 else 0 by subst hl; rfl)
    have HSA := Lib.hid (show psA l = if psE l = 0 then readA b.toNat (rd (psT l)).2 else zeroR' by subst hl; rfl)
    have HSM := Lib.hid (show psM l = if psE l = 0 then 3 + psN l else 0 from rfl)
    rw [← hn] at HV
    have h0 : 0 < l.length := by rw [hl]; simp
    have h00 : l[0]'h0 = b := by subst hl; rfl
    obtain ⟨b1, o1, rfl, hx1, hx2, hx3⟩ := rd_byte hr (k := 0) h0
    clear hx1 hx2 hx3
    have HF0 := Lib.hid (fun W (hW : Ext w W) => show W.cell? ⟨b1, o1, none⟩ = some (.int .u8 b.toNat) from by
      have h := byte_at (hr.ext hW (Nat.le_refl _)) (k := 0) h0
      rw [h00] at h
      simpa using h)
    have hn1 : 1 ≤ n := by rw [hn]; omega
    have hbb := b.toNat_lt
    have z0 : ((n : Int) == 0) = false := by simp; omega
    have HMid := Lib.hid (fun (k m : Nat) (hk : k + m ≤ n) => hr.mid (k := k) (m := m) hn hk hnc)
    have HRdb := Lib.hid (rd_small (psT l))
    have HDl := Lib.hid (show ∀ k m, k + m ≤ n → ((l.drop k).take m).length = m from fun k m h => by simp only [List.length_take, List.length_drop]; omega)
    have HTw := Lib.hid (show 3 ≤ n → numV ((l.drop 1).take 2) = psN l ∧ numE ((l.drop 1).take 2) = 0 from fun h => two_small (l.drop 1) (by simp; omega))
    clear hn hr hl h0 h00
    have HPT := Lib.hid (show psT l = (l.drop 3).take (psN l) from rfl)
    generalize b.toNat = v at *
    by_cases q1 : v < 1
    · have HE := Lib.hid (show psE l = 23 by rw [HV.out, if_pos (.inl q1)])
      go_enter Tryz.func50, Tryz.ntmps50; go_upto_region 1 with fail; generalize hwH : World.alloc w _ = w1; have HH := Lib.hid (Heap.one hwH); clear hwH
      have f0 := HF0.out w1 HH.out.ext
      go_wp2_with (first | (refine shl_store HH.out sizeRec rfl rfl rfl rfl 0 rfl rfl rfl rfl ?_; clear HH; intro wS HHS; have HH := Lib.hid HHS; clear HHS)); refine ret_cell3 sizeRec (by kernel_rfl) HH.out rfl rfl rfl rfl 0 rfl rfl rfl ?_; exact psOut_zero HE.out (by decide) HH.out.ext
    · by_cases q2 : 4 < v
      · have HE := Lib.hid (show psE l = 23 by rw [HV.out, if_pos (.inr q2)])
        go_enter Tryz.func50, Tryz.ntmps50; go_upto_region 1 with fail; generalize hwH : World.alloc w _ = w1; have HH := Lib.hid (Heap.one hwH); clear hwH
        have f0 := HF0.out w1 HH.out.ext
        go_wp2_with (first | (refine shl_store HH.out sizeRec rfl rfl rfl rfl 0 rfl rfl rfl rfl ?_; clear HH; intro wS HHS; have HH := Lib.hid HHS; clear HHS)); refine ret_cell3 sizeRec (by kernel_rfl) HH.out rfl rfl rfl rfl 0 rfl rfl rfl ?_; exact psOut_zero HE.out (by decide) HH.out.ext
      · have q12 : ¬ (v < 1 ∨ 4 < v) := by omega
        rw [if_neg q12] at HV
        by_cases q3 : n < 3
        · have HE := Lib.hid (show psE l = 8 by rw [HV.out, if_pos q3])
          go_enter Tryz.func50, Tryz.ntmps50; go_upto_region 1 with fail; generalize hwH : World.alloc w _ = w1; have HH := Lib.hid (Heap.one hwH); clear hwH
          have f0 := HF0.out w1 HH.out.ext
          go_wp2_with (first | (refine shl_store HH.out sizeRec rfl rfl rfl rfl 0 rfl rfl rfl rfl ?_; clear HH; intro wS HHS; have HH := Lib.hid HHS; clear HHS)); refine ret_cell3 sizeRec (by kernel_rfl) HH.out rfl rfl rfl rfl 0 rfl rfl rfl ?_; exact psOut_zero HE.out (by decide) HH.out.ext
        · rw [if_neg q3] at HV
          have hs13 : ∀ W, (Instr.slice 57 (.slice (some ⟨b1, o1, none⟩) n c) (some (.int .i64 1)) (some (.int .i64 3)) none).run Tryz.prog W = .ok (.slice (shiftA (some ⟨b1, o1, none⟩) c 1 1) 2 (c - 1)) W := fun W => slice_mid W 57 5 j0 1 Tryz.underlying57 hj0 hy1 (some ⟨b1, o1, none⟩) n c 1 3 _ _ rfl rfl (by omega) (by omega)
          have HTw2 := Lib.hid (HTw.out (by omega))
          have HNu := Lib.hid (fun W (hW : Ext w W) => number_any W (shiftA (some ⟨b1, o1, none⟩) c 1 1) 2 (c - 1) 0 w.heap.size ((l.drop 1).take 2) (HDl.out 1 2 (by omega)).symm (by omega) ((HMid.out 1 2 (by omega)).ext hW (Nat.le_refl _)) hW.size)
          clear HTw
          go_enter Tryz.func50, Tryz.ntmps50; go_upto_region 1 with fail; generalize hwH : World.alloc w _ = w1; have HH := Lib.hid (Heap.one hwH); clear hwH
          have f0 := HF0.out w1 HH.out.ext
          go_upto_region 7 with fail
          go_wp2_with fail
          refine (HNu.out _ HH.out.ext).mono ?_
          rintro e w2 ⟨rfl, e2⟩
          rw [HTw2.out.1, HTw2.out.2]
          have HH2 := Lib.hid (HH.out.later e2)
          clear HH e2 f0 hs13 HNu HTw2
          have HH := HH2
          clear HH2
          have hpn : psN l < 65536 := by
            have h1 := val_lt ((l.drop 1).take 2)
            have h2 : ((l.drop 1).take 2).length ≤ 2 := by simp; omega
            exact Nat.lt_of_lt_of_le h1 (Nat.pow_le_pow_right (n := 256) (by omega) h2)
          by_cases q4 : n < 3 + psN l
          · have HE := Lib.hid (show psE l = 8 by rw [HV.out, if_pos q4])
            generalize psN l = m at *
            go_wp2_with (first | (refine shl_store HH.out sizeRec rfl rfl rfl rfl 0 rfl rfl rfl rfl ?_; clear HH; intro wS HHS; have HH := Lib.hid HHS; clear HHS)); refine ret_cell3 sizeRec (by kernel_rfl) HH.out rfl rfl rfl rfl 0 rfl rfl rfl ?_; exact psOut_zero HE.out (by decide) HH.out.ext
          · rw [if_neg q4] at HV
            have HT := Lib.hid (fun W (hW : Ext w W) => read_any W (shiftA (some ⟨b1, o1, none⟩) c 3 1) (psN l) (c - 3) (psT l) (by rw [HPT.out]; exact (HDl.out 3 (psN l) (by omega)).symm) (by omega) (by rw [HPT.out]; exact ((HMid.out 3 (psN l) (by omega)).ext hW (Nat.le_refl _)).more (Nat.le_refl _) hW.size) (by omega) (by omega))
            generalize psN l = m at *
            have hs3 : ∀ W, (Instr.slice 57 (.slice (some ⟨b1, o1, none⟩) n c) (some (.int .i64 3)) (some (.int .i64 (3 + (m : Int)))) none).run Tryz.prog W = .ok (.slice (shiftA (some ⟨b1, o1, none⟩) c 3 1) m (c - 3)) W := fun W => by
              have h := slice_mid (P := Tryz.prog) W 57 5 j0 1 Tryz.underlying57 hj0 hy1 (some ⟨b1, o1, none⟩) n c 3 (3 + m) 3 (3 + (m : Int)) rfl (by omega) (by omega) (by omega)
              rwa [Nat.add_sub_cancel_left] at h
            clear HMid HDl HPT
            go_upto_region 10 with fail
            go_wp2_with fail
            refine (HT.out _ HH.out.ext).mono ?_
            rintro e w3 ⟨v3, rfl, hown3, e3⟩
            obtain ⟨A3, c3, rfl, hc3, hm3, _⟩ := own_form hown3
            have HRr := Lib.hid (show Rdr.may w3 ⟨A3, c3, (rd (psT l)).2, true⟩ from ⟨(Rd.of_own hown3).more (Nat.zero_le _) (Nat.le_refl _), hc3, by simp only [maxLen] at hm3; exact hm3, fun s hs => Nat.le_trans (HRdb.out.2 s hs) (by decide)⟩)
            have HH3 := Lib.hid (HH.out.later e3)
            have E3 := Lib.hid (HH.out.ext.trans e3)
            clear HH hown3 e3 hs3 HT hc3 hm3
            have HH := HH3
            clear HH3
            have HRd := Lib.hid (rread2_any w3 v A3 (rd (psT l)).2.length c3 (rd (psT l)).2 rfl HRr.out (by omega) (Nat.le_trans HRdb.out.1 (by decide)) (fun s hs => Nat.le_trans (HRdb.out.2 s hs) (by decide)))
            have HOk := Lib.hid (readA_okc v (rd (psT l)).2 (by omega) (Nat.le_trans HRdb.out.1 (by decide)) (fun s hs => Nat.le_trans (HRdb.out.2 s hs) (by decide)))
            have HOw := Lib.hid (readA_own v (rd (psT l)).2)
            generalize hE1 : (rd (psT l)).1 = E1 at *
            generalize (rd (psT l)).2 = ts at *
            clear hE1 HRr HRdb
            have f0 := HF0.out _ E3.out
            go_upto_region 11 with fail
            go_wp2_with fail
            refine HRd.out.mono ?_
            generalize readA v ts = RA at *
            generalize readB v ts = RB at *
            rintro e w4 ⟨y, rfl, hy1, hy2, hy3, e4⟩
            have HH4 := Lib.hid (HH.out.addRd e4 hy3 (Nat.le_refl _))
            have HY1 := Lib.hid hy1
            have HY2 := Lib.hid hy2
            have HY3 := Lib.hid (hy3.more (Nat.zero_le _) (Nat.le_refl _))
            have HKc := Lib.hid (okc_bare (show y.bare = RA.bare by rw [← hy1]; rfl) HOk.out)
            have HKe := Lib.hid (recE_of hy1 hy2 HOw.out)
            have HCk := Lib.hid (fun W (hW : Ext w4 W) => check_any W y (Rd.at HY3.out hW (Nat.le_refl _)) (okc_wf HKc.out hy2))
            clear HH e4 hy1 hy2 hy3 f0 HRd HOk HOw
            have HH := HH4
            clear HH4
            generalize recE y = RE at *
            obtain ⟨kind, name, frm, guid, oA, on, oc, own, index, count, data, s0, s1, s2, s3⟩ := y
            simp only [Rec.cells] at HCk ⊢
            dsimp only at HY2 HY3 HH
            go_upto_region 12 with fail
            go_simp
            generalize hwA : World.alloc w4 _ = w5
            have HEw := Lib.hid (show Ext w4 w5 by rw [← hwA]; exact (Ext.refl w4).alloc _)
            have HH5 := Lib.hid (HH.out.allocE hwA)
            clear hwA HH
            have HH := HH5
            clear HH5
            by_cases q5 : E1 = 0
            · subst q5
              cases RB with
              | false =>
                have HE := Lib.hid (show psE l = 33 by rw [HV.out, if_pos (.inr rfl)])
                go_wp2_with (first | (refine shl_store HH.out sizeRec rfl rfl rfl rfl 2 rfl rfl rfl rfl ?_; clear HH; intro wS HHS; have HH := Lib.hid HHS; clear HHS)); refine ret_cell3 sizeRec (by kernel_rfl) HH.out rfl rfl rfl rfl 2 rfl rfl rfl ?_; exact psOut_zero HE.out (by decide) HH.out.ext
              | true =>
                rw [if_neg (by simp)] at HV
                go_upto_region 14 with fail
                go_wp2_with (refine shl_load HH.out sizeRec (by kernel_rfl) rfl rfl rfl 0 rfl rfl ?_)
                refine (HCk.out _ ((Ext.refl w4).trans HEw.out)).mono ?_
                rintro e w6 ⟨rfl, e6⟩
                have HH6 := Lib.hid (HH.out.later e6)
                have E6 := Lib.hid (HEw.out.trans e6)
                clear HH e6 HCk
                have HH := HH6
                clear HH6
                by_cases q6 : RE = 0
                · have hE := HV.out
                  rw [← HKe.out, if_neg (by simpa using q6)] at hE
                  have hA := HSA.out
                  rw [hE, if_pos rfl] at hA
                  have hM := HSM.out
                  rw [hE, if_pos rfl] at hM
                  have HE := Lib.hid hE
                  have HA := Lib.hid hA
                  have HM := Lib.hid hM
                  subst q6
                  clear hE hA hM HV HSA HSM HKe
                  go_wp2_with (first | (refine shl_load HH.out sizeRec (by kernel_rfl) rfl rfl rfl 0 rfl rfl ?_) | (refine shl_store HH.out sizeRec rfl rfl rfl rfl 2 rfl rfl rfl rfl ?_; clear HH; intro wS HHS; have HH := Lib.hid HHS; clear HHS))
                  refine ret_cell3 sizeRec (by kernel_rfl) HH.out rfl rfl rfl rfl 2 rfl rfl rfl ?_
                  exact ⟨⟨kind, name, frm, guid, oA, on, oc, own, index, count, data, s0, s1, s2, s3⟩, by rw [HE.out, HM.out]; rfl, by rw [HA.out]; exact HY1.out, HY2.out, HH.out.rdAt 1 rfl, HH.out.ext⟩
                · have hE := HV.out
                  rw [← HKe.out, if_pos (by simpa using q6)] at hE
                  have HE := Lib.hid hE
                  clear hE
                  have d3 : (RE != 0) = true := by simpa using q6
                  go_wp2_with (first | (refine shl_store HH.out sizeRec rfl rfl rfl rfl 2 rfl rfl rfl rfl ?_; clear HH; intro wS HHS; have HH := Lib.hid HHS; clear HHS)); refine ret_cell3 sizeRec (by kernel_rfl) HH.out rfl rfl rfl rfl 2 rfl rfl rfl ?_; exact psOut_zero HE.out (by decide) HH.out.ext
            · have d3 : (E1 != 0) = true := by simpa using q5
              have HE := Lib.hid (show psE l = 33 by rw [HV.out, if_pos (.inl q5)])
              go_wp2_with (first | (refine shl_store HH.out sizeRec rfl rfl rfl rfl 2 rfl rfl rfl rfl ?_; clear HH; intro wS HHS; have HH := Lib.hid HHS; clear HHS)); refine ret_cell3 sizeRec (by kernel_rfl) HH.out rfl rfl rfl rfl 2 rfl rfl rfl ?_; exact psOut_zero HE.out (by decide) HH.out.ext
end Go.Proofs.YtmecjjmlccdppaaGreatDoor
/- order.after, order.Step. -/
namespace Go.Proofs.YtmecjjmlccdppaaGreatDoor
open Go.RowKit
set_option linter.unusedSimpArgs false
set_option linter.unusedVariables false

/-- the state behind a record, and may it follow? -/
def aftS (x : Rec) : Int := if x.kind = 1 ∨ x.kind = 2 ∨ x.kind = 3 then 1 else 2
def aftN (n : Int) (x : Rec) : Int := if x.kind = 1 then 0 else if x.kind = 2 then x.index + 1 else if x.kind = 3 then x.index + x.count else n
def aftB (s n : Int) (x : Rec) : Bool := if x.kind = 1 then s == 0 else if x.kind = 2 ∨ x.kind = 3 then s == 1 && decide (n ≤ x.index) else s == 1
set_option maxRecDepth 100000 in
set_option maxHeartbeats 2000000 in
theorem after_any (w : World) (s n : Int) (x : Rec) (h0 : 0 ≤ s ∧ s ≤ 2) (h1 : 0 ≤ n ∧ n ≤ 1024) (hx : x.wf) (hi : x.kind = 2 ∨ x.kind = 3 → 0 ≤ x.index ∧ x.index < 1024) (hc : x.kind = 3 → 1 ≤ x.count ∧ x.count ≤ 1024) :
    Calls Tryz.prog 117 #[.agg #[.int .i64 s, .int .i64 n], .agg x.cells.toArray] w fun e w' => e = .returned (.tuple #[.agg #[.int .i64 (aftS x), .int .i64 (aftN n x)], .bool (aftB s n x)]) ∧ Ext w w' := by
  obtain ⟨h5, h6⟩ := hx.index
  obtain ⟨h7, h8⟩ := hx.count
  obtain ⟨h9, h10⟩ := hx.kind
  obtain ⟨a0, a1⟩ := h0
  obtain ⟨a2, a3⟩ := h1
  have hS := Lib.hid (show aftS x = if x.kind = 1 ∨ x.kind = 2 ∨ x.kind = 3 then 1 else 2 from rfl)
  have hN := Lib.hid (show aftN n x = if x.kind = 1 then 0 else if x.kind = 2 then x.index + 1 else if x.kind = 3 then x.index + x.count else n from rfl)
  have hB := Lib.hid (show aftB s n x = if x.kind = 1 then s == 0 else if x.kind = 2 ∨ x.kind = 3 then s == 1 && decide (n ≤ x.index) else s == 1 from rfl)
  generalize aftS x = vS at *
  generalize aftN n x = vN at *
  generalize aftB s n x = vB at *
  clear hx
  obtain ⟨k, nm, f, g, oA, on, oc, own, i, c, d, s0, s1, s2, s3⟩ := x
  simp only [Rec.cells] at *
  by_cases k1 : k = 1
  · subst k1
    go_enter Tryz.func117, Tryz.ntmps117
    go_wp2_with fail
    go_region
    go_wp2_with fail
    refine bodyPost_ret (v := .tuple #[.agg #[.int .i64 1, .int .i64 0], .bool (s == 0)]) (by simp [results, Tryz.results117, go_sem]) rfl ⟨?_, by (repeat (first | exact Below.refl _ _ | exact Ext.refl _ | assumption | refine Below.drew ?_ | refine below_drewN ?_ _ | refine below_alloc ?_ (by first | exact Nat.le_refl _ | assumption | (simp; done) | omega | (simp; omega)) _ | refine below_ext ?_ (by assumption) (by first | exact Nat.le_refl _ | assumption | (simp; done) | omega | (simp; omega)) | refine Ext.drew ?_ | refine Ext.drewN ?_ _ | refine Ext.alloc ?_ _ | refine Ext.setCell ?_ (by first | assumption | (simp; done) | (simp; omega)) _ | refine Below.setCell ?_ (by first | assumption | (simp; done) | (simp; omega)) _ | refine Ext.trans ?_ (by assumption)))⟩
    rw [hS.out, hN.out, hB.out]
    rfl
  by_cases k2 : k = 2
  · subst k2
    obtain ⟨i0, i1⟩ := hi (by omega)
    have hcase : (s == 1) = false ∨ ((s == 1) = true ∧ decide (n ≤ i) = false) ∨ ((s == 1) = true ∧ decide (n ≤ i) = true) := by cases (s == 1) <;> cases decide (n ≤ i) <;> simp
    rcases hcase with q0 | ⟨q0, q1⟩ | ⟨q0, q1⟩
    all_goals
      go_enter Tryz.func117, Tryz.ntmps117
      go_wp2_with fail
      go_region
      go_wp2_with fail
      refine bodyPost_ret (v := .tuple #[.agg #[.int .i64 1, .int .i64 (i + 1)], .bool ((s == 1) && decide (n ≤ i))]) (by simp [results, Tryz.results117, go_sem, q0, *]) rfl ⟨?_, by (repeat (first | exact Below.refl _ _ | exact Ext.refl _ | assumption | refine Below.drew ?_ | refine below_drewN ?_ _ | refine below_alloc ?_ (by first | exact Nat.le_refl _ | assumption | (simp; done) | omega | (simp; omega)) _ | refine below_ext ?_ (by assumption) (by first | exact Nat.le_refl _ | assumption | (simp; done) | omega | (simp; omega)) | refine Ext.drew ?_ | refine Ext.drewN ?_ _ | refine Ext.alloc ?_ _ | refine Ext.setCell ?_ (by first | assumption | (simp; done) | (simp; omega)) _ | refine Below.setCell ?_ (by first | assumption | (simp; done) | (simp; omega)) _ | refine Ext.trans ?_ (by assumption)))⟩
      rw [hS.out, hN.out, hB.out]
      rfl
  by_cases k3 : k = 3
  · subst k3
    obtain ⟨i0, i1⟩ := hi (by omega)
    obtain ⟨c0, c1⟩ := hc rfl
    have hcase : (s == 1) = false ∨ ((s == 1) = true ∧ decide (n ≤ i) = false) ∨ ((s == 1) = true ∧ decide (n ≤ i) = true) := by cases (s == 1) <;> cases decide (n ≤ i) <;> simp
    rcases hcase with q0 | ⟨q0, q1⟩ | ⟨q0, q1⟩
    all_goals
      go_enter Tryz.func117, Tryz.ntmps117
      go_wp2_with fail
      go_region
      go_wp2_with fail
      refine bodyPost_ret (v := .tuple #[.agg #[.int .i64 1, .int .i64 (i + c)], .bool ((s == 1) && decide (n ≤ i))]) (by simp [results, Tryz.results117, go_sem, q0, *]) rfl ⟨?_, by (repeat (first | exact Below.refl _ _ | exact Ext.refl _ | assumption | refine Below.drew ?_ | refine below_drewN ?_ _ | refine below_alloc ?_ (by first | exact Nat.le_refl _ | assumption | (simp; done) | omega | (simp; omega)) _ | refine below_ext ?_ (by assumption) (by first | exact Nat.le_refl _ | assumption | (simp; done) | omega | (simp; omega)) | refine Ext.drew ?_ | refine Ext.drewN ?_ _ | refine Ext.alloc ?_ _ | refine Ext.setCell ?_ (by first | assumption | (simp; done) | (simp; omega)) _ | refine Below.setCell ?_ (by first | assumption | (simp; done) | (simp; omega)) _ | refine Ext.trans ?_ (by assumption)))⟩
      rw [hS.out, hN.out, hB.out]
      rfl
  · go_enter Tryz.func117, Tryz.ntmps117
    go_wp2_with fail
    go_region
    go_wp2_with fail
    refine bodyPost_ret (v := .tuple #[.agg #[.int .i64 2, .int .i64 n], .bool (s == 1)]) (by simp [results, Tryz.results117, go_sem]) rfl ⟨?_, by (repeat (first | exact Below.refl _ _ | exact Ext.refl _ | assumption | refine Below.drew ?_ | refine below_drewN ?_ _ | refine below_alloc ?_ (by first | exact Nat.le_refl _ | assumption | (simp; done) | omega | (simp; omega)) _ | refine below_ext ?_ (by assumption) (by first | exact Nat.le_refl _ | assumption | (simp; done) | omega | (simp; omega)) | refine Ext.drew ?_ | refine Ext.drewN ?_ _ | refine Ext.alloc ?_ _ | refine Ext.setCell ?_ (by first | assumption | (simp; done) | (simp; omega)) _ | refine Below.setCell ?_ (by first | assumption | (simp; done) | (simp; omega)) _ | refine Ext.trans ?_ (by assumption)))⟩
    rw [hS.out, hN.out, hB.out, if_neg (by omega), if_neg k1, if_neg k2, if_neg k3, if_neg k1, if_neg (by omega)]
end Go.Proofs.YtmecjjmlccdppaaGreatDoor
/- order.Step. -/
namespace Go.Proofs.YtmecjjmlccdppaaGreatDoor
open Go.RowKit

structure St where
  seen : Int
  next : Int
  err : Int
def badS (s n : Int) : Bool := decide (s < 0) || decide (2 < s) || decide (n < 0) || decide (1024 < n)
/-- order.Step's answer -/
def stepR (s n : Int) (x : Rec) : St :=
  if badS s n = true then ⟨0, 0, 9⟩ else if recE x ≠ 0 then ⟨0, 0, recE x⟩ else if aftB s n x = true then ⟨aftS x, aftN n x, 0⟩ else ⟨0, 0, 35⟩
theorem rec_ok {x : Rec} (h : recE x = 0) : (1 ≤ x.kind ∧ x.kind ≤ 4) ∧ mayB x = true := by
  unfold recE at h
  split at h
  · omega
  · split at h
    · rename_i h1 h2; exact ⟨by omega, h2⟩
    · omega
theorem rec_ind {x : Rec} (h : recE x = 0) (hk : x.kind = 2 ∨ x.kind = 3) : 0 ≤ x.index ∧ x.index < 1024 := by
  have h2 := (rec_ok h).2
  unfold mayB at h2
  rcases hk with hk | hk
  · rw [if_neg (by omega), if_pos hk] at h2
    simp only [Bool.and_eq_true, decide_eq_true_eq] at h2
    omega
  · rw [if_neg (by omega), if_neg (by omega), if_pos hk] at h2
    simp only [Bool.and_eq_true, decide_eq_true_eq] at h2
    omega
theorem rec_cnt {x : Rec} (h : recE x = 0) (hk : x.kind = 3) : 1 ≤ x.count ∧ x.count ≤ 1024 - x.index := by
  have h2 := (rec_ok h).2
  unfold mayB at h2
  rw [if_neg (by omega), if_neg (by omega), if_pos hk] at h2
  simp only [Bool.and_eq_true, decide_eq_true_eq] at h2
  omega
set_option maxRecDepth 100000 in
set_option maxHeartbeats 2000000 in
theorem step_any (w : World) (s n : Int) (x : Rec) (hr : Rd w 0 w.heap.size x.oA (prps x.own)) (hx : x.wf) (hs : -9223372036854775808 ≤ s ∧ s ≤ 9223372036854775807) (hn : -9223372036854775808 ≤ n ∧ n ≤ 9223372036854775807) :
    Calls Tryz.prog 89 #[.agg #[.int .i64 s, .int .i64 n], .agg x.cells.toArray] w fun e w' => e = .returned (.tuple #[.agg #[.int .i64 (stepR s n x).seen, .int .i64 (stepR s n x).next], .int .i64 (stepR s n x).err]) ∧ Ext w w' := by
  have HV := Lib.hid (show stepR s n x = if badS s n = true then ⟨0, 0, 9⟩ else if recE x ≠ 0 then ⟨0, 0, recE x⟩ else if aftB s n x = true then ⟨aftS x, aftN n x, 0⟩ else ⟨0, 0, 35⟩ from rfl)
  have HC := Lib.hid (fun w1 (e1 : Ext w w1) => check_any w1 x (Rd.at hr e1 (Nat.le_refl _)) hx)
  have HA := Lib.hid (fun (he : recE x = 0) (h0 : 0 ≤ s ∧ s ≤ 2) (h1 : 0 ≤ n ∧ n ≤ 1024) w1 => after_any w1 s n x h0 h1 hx (rec_ind he) (fun h => by have := rec_cnt he h; have := rec_ind he (.inr h); omega))
  obtain ⟨b1, b2⟩ := hs
  obtain ⟨b3, b4⟩ := hn
  generalize stepR s n x = v at *
  generalize recE x = re at *
  generalize aftB s n x = ab at *
  generalize aftS x = av at *
  generalize aftN n x = an at *
  clear hx hr
  obtain ⟨k, nm, f, g, oA, on, oc, own, i, c, d, s0, s1, s2, s3⟩ := x
  simp only [Rec.cells] at *
  have hcase : s < 0 ∨ (0 ≤ s ∧ 2 < s) ∨ (0 ≤ s ∧ s ≤ 2 ∧ n < 0) ∨ (0 ≤ s ∧ s ≤ 2 ∧ 0 ≤ n ∧ 1024 < n) ∨ (0 ≤ s ∧ s ≤ 2 ∧ 0 ≤ n ∧ n ≤ 1024) := by omega
  rcases hcase with q0 | ⟨q0, q1⟩ | ⟨q0, q1, q2⟩ | ⟨q0, q1, q2, q3⟩ | ⟨q0, q1, q2, q3⟩
  iterate 4
    · have hb : badS s n = true := by simp [badS]; omega
      have hv : Hid (v = ⟨0, 0, 9⟩) := by rw [Hid, HV.out, if_pos hb]
      clear hb
      go_enter Tryz.func89, Tryz.ntmps89
      go_wp2_with fail
      refine bodyPost_ret (v := .tuple #[.agg #[.int .i64 0, .int .i64 0], .int .i64 9]) (by simp [results, Tryz.results89, go_sem]) rfl ⟨by rw [hv.out]; try rfl, by (repeat (first | exact Below.refl _ _ | exact Ext.refl _ | assumption | refine Below.drew ?_ | refine below_drewN ?_ _ | refine below_alloc ?_ (by first | exact Nat.le_refl _ | assumption | (simp; done) | omega | (simp; omega)) _ | refine below_ext ?_ (by assumption) (by first | exact Nat.le_refl _ | assumption | (simp; done) | omega | (simp; omega)) | refine Ext.drew ?_ | refine Ext.drewN ?_ _ | refine Ext.alloc ?_ _ | refine Ext.setCell ?_ (by first | assumption | (simp; done) | (simp; omega)) _ | refine Below.setCell ?_ (by first | assumption | (simp; done) | (simp; omega)) _ | refine Ext.trans ?_ (by assumption)))⟩
  · have hb : badS s n = false := by simp [badS]; omega
    have hv : Hid (v = if re ≠ 0 then ⟨0, 0, re⟩ else if ab = true then ⟨av, an, 0⟩ else ⟨0, 0, 35⟩) := by rw [Hid, HV.out, hb, if_neg (by decide)]
    clear hb HV
    by_cases hre : re = 0
    · subst hre
      cases ab
      · have hv : Hid (v = ⟨0, 0, 35⟩) := by rw [Hid, hv.out]; rfl
        go_enter Tryz.func89, Tryz.ntmps89
        go_wp2_with (first
          | (go_at_call 26; refine (HC.out _ (by (repeat (first | exact Below.refl _ _ | exact Ext.refl _ | assumption | refine Below.drew ?_ | refine below_drewN ?_ _ | refine below_alloc ?_ (by first | exact Nat.le_refl _ | assumption | (simp; done) | omega | (simp; omega)) _ | refine below_ext ?_ (by assumption) (by first | exact Nat.le_refl _ | assumption | (simp; done) | omega | (simp; omega)) | refine Ext.drew ?_ | refine Ext.drewN ?_ _ | refine Ext.alloc ?_ _ | refine Ext.setCell ?_ (by first | assumption | (simp; done) | (simp; omega)) _ | refine Below.setCell ?_ (by first | assumption | (simp; done) | (simp; omega)) _ | refine Ext.trans ?_ (by assumption))))).mono ?_; rintro e w2 ⟨rfl, e2⟩; obtain ⟨y1, y2⟩ := bcell e2; have z2 : w.heap.size + 2 < w2.heap.size := (by have := e2.size; simp at this; omega); have c0 : w2.cell? ⟨w.heap.size + 2, 0, none⟩ = some (.int .i64 0) := (by rw [y1 _ _ (by first | (simp; done) | (simp; omega))]; go_simp); have c1 : w2.cell? ⟨w.heap.size + 2, 1, none⟩ = some (.int .i64 0) := (by rw [y1 _ _ (by first | (simp; done) | (simp; omega))]; go_simp); have f0 : w2.frozen? ⟨w.heap.size + 2, 0, none⟩ = false := (by rw [y2 _ _ (by first | (simp; done) | (simp; omega))]; go_simp); have f1 : w2.frozen? ⟨w.heap.size + 2, 1, none⟩ = false := (by rw [y2 _ _ (by first | (simp; done) | (simp; omega))]; go_simp))
          | (go_at_call 117; refine (HA.out (by trivial) ⟨q0, q1⟩ ⟨q2, q3⟩ _).mono ?_; rintro e w3 ⟨rfl, e3⟩; obtain ⟨y3, y4⟩ := bcell e3; have z3 : w.heap.size + 2 < w3.heap.size := (by have := e3.size; omega); have c2 : w3.cell? ⟨w.heap.size + 2, 0, none⟩ = some (.int .i64 0) := (by rw [y3 _ _ z2]; exact c0); have c3 : w3.cell? ⟨w.heap.size + 2, 1, none⟩ = some (.int .i64 0) := (by rw [y3 _ _ z2]; exact c1); have f2 : w3.frozen? ⟨w.heap.size + 2, 0, none⟩ = false := (by rw [y4 _ _ z2]; exact f0); have f3 : w3.frozen? ⟨w.heap.size + 2, 1, none⟩ = false := (by rw [y4 _ _ z2]; exact f1)))
        refine bodyPost_ret (v := .tuple #[.agg #[.int .i64 0, .int .i64 0], .int .i64 35]) (by simp [results, Tryz.results89, go_sem, *]) rfl ⟨by rw [hv.out]; try rfl, by (repeat (first | exact Below.refl _ _ | exact Ext.refl _ | assumption | refine Below.drew ?_ | refine below_drewN ?_ _ | refine below_alloc ?_ (by first | exact Nat.le_refl _ | assumption | (simp; done) | omega | (simp; omega)) _ | refine below_ext ?_ (by assumption) (by first | exact Nat.le_refl _ | assumption | (simp; done) | omega | (simp; omega)) | refine Ext.drew ?_ | refine Ext.drewN ?_ _ | refine Ext.alloc ?_ _ | refine Ext.setCell ?_ (by first | assumption | (simp; done) | (simp; omega)) _ | refine Below.setCell ?_ (by first | assumption | (simp; done) | (simp; omega)) _ | refine Ext.trans ?_ (by assumption)))⟩
      · have hv : Hid (v = ⟨av, an, 0⟩) := by rw [Hid, hv.out]; rfl
        go_enter Tryz.func89, Tryz.ntmps89
        go_wp2_with (first
          | (go_at_call 26; refine (HC.out _ (by (repeat (first | exact Below.refl _ _ | exact Ext.refl _ | assumption | refine Below.drew ?_ | refine below_drewN ?_ _ | refine below_alloc ?_ (by first | exact Nat.le_refl _ | assumption | (simp; done) | omega | (simp; omega)) _ | refine below_ext ?_ (by assumption) (by first | exact Nat.le_refl _ | assumption | (simp; done) | omega | (simp; omega)) | refine Ext.drew ?_ | refine Ext.drewN ?_ _ | refine Ext.alloc ?_ _ | refine Ext.setCell ?_ (by first | assumption | (simp; done) | (simp; omega)) _ | refine Below.setCell ?_ (by first | assumption | (simp; done) | (simp; omega)) _ | refine Ext.trans ?_ (by assumption))))).mono ?_; rintro e w2 ⟨rfl, e2⟩; obtain ⟨y1, y2⟩ := bcell e2; have z2 : w.heap.size + 2 < w2.heap.size := (by have := e2.size; simp at this; omega); have c0 : w2.cell? ⟨w.heap.size + 2, 0, none⟩ = some (.int .i64 0) := (by rw [y1 _ _ (by first | (simp; done) | (simp; omega))]; go_simp); have c1 : w2.cell? ⟨w.heap.size + 2, 1, none⟩ = some (.int .i64 0) := (by rw [y1 _ _ (by first | (simp; done) | (simp; omega))]; go_simp); have f0 : w2.frozen? ⟨w.heap.size + 2, 0, none⟩ = false := (by rw [y2 _ _ (by first | (simp; done) | (simp; omega))]; go_simp); have f1 : w2.frozen? ⟨w.heap.size + 2, 1, none⟩ = false := (by rw [y2 _ _ (by first | (simp; done) | (simp; omega))]; go_simp))
          | (go_at_call 117; refine (HA.out (by trivial) ⟨q0, q1⟩ ⟨q2, q3⟩ _).mono ?_; rintro e w3 ⟨rfl, e3⟩; obtain ⟨y3, y4⟩ := bcell e3; have z3 : w.heap.size + 2 < w3.heap.size := (by have := e3.size; omega); have c2 : w3.cell? ⟨w.heap.size + 2, 0, none⟩ = some (.int .i64 0) := (by rw [y3 _ _ z2]; exact c0); have c3 : w3.cell? ⟨w.heap.size + 2, 1, none⟩ = some (.int .i64 0) := (by rw [y3 _ _ z2]; exact c1); have f2 : w3.frozen? ⟨w.heap.size + 2, 0, none⟩ = false := (by rw [y4 _ _ z2]; exact f0); have f3 : w3.frozen? ⟨w.heap.size + 2, 1, none⟩ = false := (by rw [y4 _ _ z2]; exact f1)))
        refine bodyPost_ret (v := .tuple #[.agg #[.int .i64 av, .int .i64 an], .int .i64 0]) (by simp [results, Tryz.results89, go_sem, *]) rfl ⟨by rw [hv.out]; try rfl, by (repeat (first | exact Below.refl _ _ | exact Ext.refl _ | assumption | refine Below.drew ?_ | refine below_drewN ?_ _ | refine below_alloc ?_ (by first | exact Nat.le_refl _ | assumption | (simp; done) | omega | (simp; omega)) _ | refine below_ext ?_ (by assumption) (by first | exact Nat.le_refl _ | assumption | (simp; done) | omega | (simp; omega)) | refine Ext.drew ?_ | refine Ext.drewN ?_ _ | refine Ext.alloc ?_ _ | refine Ext.setCell ?_ (by first | assumption | (simp; done) | (simp; omega)) _ | refine Below.setCell ?_ (by first | assumption | (simp; done) | (simp; omega)) _ | refine Ext.trans ?_ (by assumption)))⟩
    · have hv : Hid (v = ⟨0, 0, re⟩) := by rw [Hid, hv.out, if_pos hre]
      have hr2 : (re != 0) = true := by simpa using hre
      go_enter Tryz.func89, Tryz.ntmps89
      go_wp2_with (first
        | (go_at_call 26; refine (HC.out _ (by (repeat (first | exact Below.refl _ _ | exact Ext.refl _ | assumption | refine Below.drew ?_ | refine below_drewN ?_ _ | refine below_alloc ?_ (by first | exact Nat.le_refl _ | assumption | (simp; done) | omega | (simp; omega)) _ | refine below_ext ?_ (by assumption) (by first | exact Nat.le_refl _ | assumption | (simp; done) | omega | (simp; omega)) | refine Ext.drew ?_ | refine Ext.drewN ?_ _ | refine Ext.alloc ?_ _ | refine Ext.setCell ?_ (by first | assumption | (simp; done) | (simp; omega)) _ | refine Below.setCell ?_ (by first | assumption | (simp; done) | (simp; omega)) _ | refine Ext.trans ?_ (by assumption))))).mono ?_; rintro e w2 ⟨rfl, e2⟩; obtain ⟨y1, y2⟩ := bcell e2; have z2 : w.heap.size + 2 < w2.heap.size := (by have := e2.size; simp at this; omega); have c0 : w2.cell? ⟨w.heap.size + 2, 0, none⟩ = some (.int .i64 0) := (by rw [y1 _ _ (by first | (simp; done) | (simp; omega))]; go_simp); have c1 : w2.cell? ⟨w.heap.size + 2, 1, none⟩ = some (.int .i64 0) := (by rw [y1 _ _ (by first | (simp; done) | (simp; omega))]; go_simp); have f0 : w2.frozen? ⟨w.heap.size + 2, 0, none⟩ = false := (by rw [y2 _ _ (by first | (simp; done) | (simp; omega))]; go_simp); have f1 : w2.frozen? ⟨w.heap.size + 2, 1, none⟩ = false := (by rw [y2 _ _ (by first | (simp; done) | (simp; omega))]; go_simp)))
      refine bodyPost_ret (v := .tuple #[.agg #[.int .i64 0, .int .i64 0], .int .i64 re]) (by simp [results, Tryz.results89, go_sem, *]) rfl ⟨by rw [hv.out]; try rfl, by (repeat (first | exact Below.refl _ _ | exact Ext.refl _ | assumption | refine Below.drew ?_ | refine below_drewN ?_ _ | refine below_alloc ?_ (by first | exact Nat.le_refl _ | assumption | (simp; done) | omega | (simp; omega)) _ | refine below_ext ?_ (by assumption) (by first | exact Nat.le_refl _ | assumption | (simp; done) | omega | (simp; omega)) | refine Ext.drew ?_ | refine Ext.drewN ?_ _ | refine Ext.alloc ?_ _ | refine Ext.setCell ?_ (by first | assumption | (simp; done) | (simp; omega)) _ | refine Below.setCell ?_ (by first | assumption | (simp; done) | (simp; omega)) _ | refine Ext.trans ?_ (by assumption)))⟩
end Go.Proofs.YtmecjjmlccdppaaGreatDoor
