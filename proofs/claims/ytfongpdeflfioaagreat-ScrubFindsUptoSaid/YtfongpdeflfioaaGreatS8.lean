/- The texts Write, Ns, Ix, Ub in one file. -/
import Derived.Test.YtfongpdeflfioaaGreatS4
import Derived.Test.YtfongpdeflfioaaGreatS7
import Derived.Test.YtfongpdeflfioaaGreatS2
/- The walks of ContainsFunc over texts, fields.Write, the example 'alive'. -/
namespace Go.Proofs.YtfongpdeflfioaaGreat
open Go.RowKit
def longB (s : ByteArray) : Bool := decide (65536 < s.size)
set_option maxRecDepth 100000 in
set_option maxHeartbeats 400000 in
theorem long_any (s : ByteArray) (w : World) : Calls Tryz.prog 128 #[.string s] w fun e w' => e = .returned (.bool (longB s)) ∧ Ext w w' := by
  have h : Hid (longB s = decide ((65536 : Int) < (s.size : Int))) := by
    have e : (65536 < s.size) = ((65536 : Int) < (s.size : Int)) := by rw [eq_iff_iff]; omega
    simp only [Hid, longB, e]
  go_enter Tryz.func128, Tryz.ntmps128
  go_wp2_with fail
  go_ret
  exact ⟨by rw [h.out]; rfl, Ext.refl _⟩
def IdxOk (l : List ByteArray) (w : World) (e : Ending) (w' : World) : Prop :=
  ∃ r : Int, e = .returned (.int .i64 r) ∧ l.any longB = decide (0 ≤ r) ∧ -1 ≤ r ∧ Ext w w'
set_option maxRecDepth 100000 in
set_option maxHeartbeats 400000 in
theorem idx_any (w : World) (A : Option Addr) (n c lo hi : Nat) (l : List ByteArray) (hn : n = l.length) (hm : n ≤ 9223372036854775807) (hr : Rd w lo hi A (l.map Value.string)) (hh : hi ≤ w.heap.size) :
    Calls Tryz.prog 143 #[.slice A n c, .func (.func 128) #[] #[]] w (IdxOk l w) := by
  have Hn := Lib.hid hn
  clear hn
  go_enter Tryz.func143, Tryz.ntmps143
  go_wp2_with fail
  go_loopw [8] (fun i wr => ∃ k : Nat, k ≤ n ∧ i = .int .i64 k ∧ (l.take k).any longB = false ∧ Ext w wr) (fun i _ => n - (intOf i).toNat)
  case atStart => exact ⟨0, Nat.zero_le _, rfl, rfl, Ext.refl _⟩
  case round =>
    obtain ⟨k, hk, rfl, hno, e1⟩ := hrel
    have HK := Lib.hid hno
    clear hno
    by_cases hlt : k < n
    · obtain ⟨b1, o1, rfl, _, _, f0⟩ := rd_str (hr.ext e1 hh) (k := k) (by rw [← Hn.out]; omega)
      have hl : k < l.length := by rw [← Hn.out]; omega
      obtain ⟨y, hy⟩ : ∃ y, y = l[k]'hl := ⟨_, rfl⟩
      rw [← hy] at f0
      have HY := Lib.hid hy
      clear hy
      go_wp2_with fail
      refine (long_any y _).mono ?_
      rintro e w2 ⟨rfl, e2⟩
      cases ho : longB y
      · go_wp2_with fail
        go_roundw
        case rel =>
          refine ⟨k + 1, by omega, by go_num, ?_, by exact blo⟩
          rw [List.take_succ_eq_append_getElem hl, List.any_append, HK.out, ← HY.out]
          simp [ho]
        case measure => simp [intOf]; omega
      · go_wp2_with fail
        go_ret
        refine ⟨k, rfl, ?_, by omega, by exact blo⟩
        have h1 : l.any longB = true := List.any_eq_true.2 ⟨y, by rw [HY.out]; exact List.getElem_mem _, ho⟩
        rw [h1]
        simp
    · go_wp2_with fail
      go_ret
      obtain rfl : k = n := by omega
      have h1 := HK.out
      rw [List.take_of_length_le (by rw [← Hn.out]; exact Nat.le_refl _)] at h1
      exact ⟨-1, rfl, by rw [h1]; rfl, by omega, e1⟩
set_option maxRecDepth 100000 in
set_option maxHeartbeats 400000 in
theorem contains_any (w : World) (A : Option Addr) (n c lo hi : Nat) (l : List ByteArray) (hn : n = l.length) (hm : n ≤ 9223372036854775807) (hr : Rd w lo hi A (l.map Value.string)) (hh : hi ≤ w.heap.size) :
    Calls Tryz.prog 127 #[.slice A n c, .func (.func 128) #[] #[]] w fun e w' => e = .returned (.bool (l.any longB)) ∧ Ext w w' := by
  have Hn := Lib.hid hn
  clear hn
  go_enter Tryz.func127, Tryz.ntmps127
  go_wp2_with fail
  refine (idx_any w A n c lo hi l Hn.out hm hr hh).mono ?_
  rintro e w2 ⟨r, rfl, hany, hr1, e2⟩
  have HA := Lib.hid hany
  clear hany
  go_wp2_with fail
  go_ret
  exact ⟨by rw [HA.out]; rfl, e2⟩
def wE (l : List ByteArray) : Int := if 1024 < l.length then 3 else if l.any longB then 5 else 0
def one (s : ByteArray) : List UInt8 := puts s.size 3 ++ s.data.toList
def flat (l : List ByteArray) : List UInt8 := puts l.length 2 ++ l.flatMap one
def wB (l : List ByteArray) : List UInt8 := if wE l = 0 then flat l else []
def acc (l : List ByteArray) (k : Nat) : List UInt8 := puts l.length 2 ++ (l.take k).flatMap one
theorem acc_succ (l : List ByteArray) (k : Nat) (hk : k < l.length) : acc l (k + 1) = acc l k ++ puts l[k].size 3 ++ l[k].data.toList := by
  unfold acc
  rw [List.take_succ_eq_append_getElem hk, List.flatMap_append]
  simp [one, List.append_assoc]
theorem acc_len (l : List ByteArray) (k : Nat) (hl : l.any longB = false) (hk : k ≤ l.length) : (acc l k).length ≤ 2 + k * 65539 := by
  induction k with
  | zero => simp [acc, puts_length]
  | succ k ih =>
    have h1 := ih (by omega)
    have h2 : longB (l[k]'(by omega)) = false := by
      have := List.any_eq_false.1 hl (l[k]'(by omega)) (List.getElem_mem _)
      simpa using this
    rw [acc_succ l k (by omega), List.length_append, List.length_append, puts_length, len_data]
    simp only [longB, decide_eq_false_iff_not] at h2
    omega
def WriteOk (l : List ByteArray) (w : World) (e : Ending) (w' : World) : Prop :=
  ∃ v, e = .returned (.tuple #[v, .int .i64 (wE l)]) ∧ w'.ownsRow w.heap.size 5 1 v (wB l).length (bytes (wB l)) ∧ Ext w w'
theorem strCells_eq (s : ByteArray) : Lib.strCells s = bytes s.data.toList := rfl
set_option maxRecDepth 100000 in
set_option maxHeartbeats 1000000 in
theorem write_any (w : World) (A : Option Addr) (n c : Nat) (l : List ByteArray) (hn : n = l.length) (hm : n ≤ 9223372036854775807) (hr : Rd w 0 w.heap.size A (l.map Value.string)) :
    Calls Tryz.prog 93 #[.slice A n c] w (WriteOk l w) := by
  obtain ⟨i0, hi0, hz0, hz1, hz2⟩ := info_parts info5
  have Hn := Lib.hid hn
  by_cases hbig : 1024 < n
  · have hv : Hid (wE l = 3 ∧ wB l = []) := by
      have : wE l = 3 := by rw [wE, if_pos (by omega)]
      exact ⟨this, by rw [wB, this]; rfl⟩
    clear hn
    go_enter Tryz.func93, Tryz.ntmps93
    go_wp2_with fail
    go_ret2
    exact ⟨.slice none 0 0, by rw [hv.out.1]; rfl, by rw [hv.out.2]; exact World.ownsRow_nil _ _ _ _, Ext.refl _⟩
  · cases hlong : l.any longB
    · have hv : Hid (wE l = 0 ∧ wB l = acc l n) := by
        have : wE l = 0 := by rw [wE, if_neg (by omega), hlong]; rfl
        refine ⟨this, ?_⟩
        rw [wB, this, if_pos rfl, acc, List.take_of_length_le (by omega)]
        rfl
      have HL := Lib.hid hlong
      clear hn hlong
      go_enter Tryz.func93, Tryz.ntmps93
      go_wp2_with fail
      refine (contains_any w A n c 0 w.heap.size l Hn.out hm hr (Nat.le_refl _)).mono ?_
      rintro e w2 ⟨rfl, e2⟩
      rw [HL.out]
      go_wp2_with fail
      refine (put_any n _ 2 (by omega) rfl w2 (by omega) (by omega)).mono ?_
      rintro e w3 ⟨v3, rfl, hown3, e3⟩
      have e4 : Ext w w3 := by exact blo
      have hown4 : w3.ownsRow w.heap.size 5 1 v3 2 (bytes (acc l 0)) := by
        have h : acc l 0 = puts n 2 := by rw [acc, ← Hn.out]; simp
        rw [h]
        exact own_lower hown3 e2.size
      clear hown3 e2 e3
      go_wp2_with fail
      go_loopw [4, 19] (fun v i wr => ∃ k : Nat, k ≤ n ∧ i = .int .i64 k ∧ wr.ownsRow w.heap.size 5 1 v (acc l k).length (bytes (acc l k)) ∧ Ext w wr) (fun _ i _ => n - (intOf i).toNat)
      case atStart => exact ⟨0, Nat.zero_le _, rfl, by have h : (acc l 0).length = 2 := by simp [acc, puts_length]
                                                       rw [h]; exact hown4, e4⟩
      case round =>
        clear hown4 e4
        obtain ⟨k, hk, rfl, hown, e5⟩ := hrel
        by_cases hlt : k < n
        · obtain ⟨b1, o1, rfl, _, _, f0⟩ := rd_str (hr.at (w' := wr) (by exact blo) (Nat.le_refl _)) (k := k) (by rw [← Hn.out]; omega)
          have htx := Lib.hid (acc_succ l k (by rw [← Hn.out]; omega))
          have hlen := acc_len l k HL.out (by rw [← Hn.out]; omega)
          have hy : (l[k]'(by rw [← Hn.out]; omega)).size ≤ 65536 := by
            have := List.any_eq_false.1 HL.out (l[k]'(by rw [← Hn.out]; omega)) (List.getElem_mem _)
            simp only [longB, decide_eq_true_eq] at this
            omega
          generalize l[k]'(by rw [← Hn.out]; omega) = y at *
          generalize acc l k = a0 at hlen htx hown ⊢
          go_wp2_with fail
          clear f0
          refine (put_any y.size _ 3 (by omega) rfl wr (by omega) (by omega)).mono ?_
          rintro e w6 ⟨v6, rfl, hown6, e6⟩
          obtain ⟨A6, c6, rfl, _, _, _⟩ := own_form hown6
          have own2 := own_ext hown e6
          have e7 : Ext w w6 := by exact blo
          clear hown e5 e6
          go_wp2_with (first
            | (at_builtin
               refine list_app _ rfl (.tmp 23) (.tmp 26) _ rfl 5 i0 _ 1 1 Tryz.underlying33 hi0 hz0 hz1 hz2 rfl (by omega) _ _ _ _ rfl own2 _ _ A6 3 c6 (bytes (puts y.size 3)) rfl (by rw [bytes_length, puts_length]) (Rd.of_own hown6) (bytes_one _) (by simp only [maxLen]; omega) (by omega) e7.size ?_
               intro v8 w8 hown8 he8 _ _
               have e8 : Ext w w8 := he8 _ e7 (Nat.le_refl _)
               clear he8 own2 e7 hown6)
            | (at_builtin
               refine Lib.wpList_append_own_string _ rfl (.tmp 28) (.tmp 29) _ _ rfl w.heap.size 5 i0 Tryz.underlying33 Tryz.underlying9 hi0 hz0 hz1 hz2 v8 _ _ rfl hown8 y rfl (by simp only [maxLen]; omega) (by omega) e8.size ?_
               intro v9 w9 hown9 hg9 _
               have e9 : Ext w w9 := ext_grown e8 hown8 hg9 (Nat.le_refl _)
               clear hg9 hown8 e8))
          go_roundw
          case rel =>
            refine ⟨k + 1, by omega, by go_num, ?_, e9⟩
            rw [htx.out, bytes_append, bytes_append, List.length_append, List.length_append, puts_length, len_data]
            exact hown9
          case measure => simp [intOf]; omega
        · go_wp2_with fail
          obtain rfl : k = n := by omega
          go_ret2
          exact ⟨_, by rw [hv.out.1]; rfl, by rw [hv.out.2]; exact hown, e5⟩
    · have hv : Hid (wE l = 5 ∧ wB l = []) := by
        have : wE l = 5 := by rw [wE, if_neg (by omega), hlong]; rfl
        exact ⟨this, by rw [wB, this]; rfl⟩
      have HL := Lib.hid hlong
      clear hn hlong
      go_enter Tryz.func93, Tryz.ntmps93
      go_wp2_with fail
      refine (contains_any w A n c 0 w.heap.size l Hn.out hm hr (Nat.le_refl _)).mono ?_
      rintro e w2 ⟨rfl, e2⟩
      rw [HL.out]
      go_wp2_with fail
      go_ret2
      exact ⟨.slice none 0 0, by rw [hv.out.1]; rfl, by rw [hv.out.2]; exact World.ownsRow_nil _ _ _ _, e2⟩
end Go.Proofs.YtfongpdeflfioaaGreat
/- store.numbers. -/
namespace Go.Proofs.YtfongpdeflfioaaGreat
open Go.RowKit Go.Maps Go.Sort Go.Shelf
set_option linter.unusedVariables false
set_option linter.unusedSimpArgs false
def numsO (l : List Int) : List UInt8 := l.flatMap fun y => puts y 8
theorem numsO_take (l : List Int) (k : Nat) (h : k < l.length) : numsO (l.take (k + 1)) = numsO (l.take k) ++ puts l[k] 8 := by
  rw [List.take_succ_eq_append_getElem h, numsO, List.flatMap_append]; simp [numsO]
theorem numsO_len (l : List Int) : (numsO l).length = 8 * l.length := by
  induction l with
  | nil => rfl
  | cons x l ih => rw [numsO, List.flatMap_cons, List.length_append, puts_length, show (l.flatMap fun y => puts y 8).length = _ from ih, List.length_cons]; omega
theorem int_wf {y : Int} (h : (Lit.int .i64 y).wf = true) : -9223372036854775808 ≤ y ∧ y ≤ 9223372036854775807 := by
  simp only [Lit.wf, Bool.and_eq_true, decide_eq_true_eq] at h
  exact ⟨h.1, h.2⟩
set_option maxRecDepth 100000 in
set_option maxHeartbeats 4000000 in
theorem snums_any (w : World) (s : Loc) (h : Loc.At w 0 w.heap.size s) (hT : s.n ≤ 10000000) : Calls Tryz.prog 92 #[s.val] w fun e w' => e = .returned (.string ⟨(numsO s.xs).toArray⟩) ∧ Ext w w' := by
  obtain ⟨i0, hi0, hz0, hz1, hz2⟩ := info_parts info5
  have HI := Lib.hid h
  have HW := Lib.hid h.all
  clear h
  obtain ⟨A, n, c, xs⟩ := s
  have Hn := Lib.hid (show n = xs.length from HI.out.len)
  simp only [Sl.val] at *
  go_enter Tryz.func92, Tryz.ntmps92
  go_upto_region 3 with fail
  have HH := Lib.hid (show Heap w [.row 5 1 (.slice none 0 0) 0 []] w from (Heap.start w).row0)
  go_loopw [3, 8] (fun v i wr => ∃ k : Nat, k ≤ n ∧ i = .int .i64 k ∧ (∃ vA vc, v = .slice vA (8 * k) vc ∧ Hid (Heap w [.row 5 1 (.slice vA (8 * k) vc) (8 * k) (bytes (numsO (xs.take k)))] wr))) (fun _ i _ => n - (intOf i).toNat)
  case atStart => exact ⟨0, Nat.zero_le _, rfl, _, _, rfl, HH⟩
  case round =>
    clear HH
    obtain ⟨k, hk, rfl, vA, vc, rfl, HH⟩ := hrel
    by_cases hlt : k < n
    · have l1 : k < xs.length := by rw [← Hn.out]; exact hlt
      obtain ⟨b1, o1, rfl, _, f0⟩ := rd_int2 (Rd.at HI.out.rdi HH.out.ext (Nat.le_refl _)) l1
      have HS := Lib.hid (numsO_take xs k l1)
      have hy := int_wf (HW.out _ (List.getElem_mem l1))
      generalize numsO (xs.take k) = Y at *
      generalize xs[k] = y at *
      go_wp2_with fail
      refine (put_any y _ 8 (Nat.le_refl _) rfl _ hy.1 hy.2).mono ?_
      rintro e w2 ⟨v2, rfl, hown2, e2⟩
      obtain ⟨A2, c2, rfl, _, _, _⟩ := own_form hown2
      have HH2 := Lib.hid (HH.out.addRow e2 hown2)
      clear HH hown2 e2 f0
      have HH := HH2
      clear HH2
      go_wp2_with (at_builtin; refine shl_app (e := 5) (size := 1) (bytes := 1) (news := bytes (puts y 8)) (lo := w.heap.size) (.tmp 12) (.tmp 14) _ rfl rfl Tryz.underlying33 hi0 hz0 hz1 hz2 rfl (by omega) HH.out 1 rfl rfl (m := 8) rfl (by rw [bytes_length, puts_length]) (HH.out.rowRd 0 rfl) (bytes_one _) (by simp only [maxLen]; omega) (by omega) ?_; intro v7 w7 hh7 h7; obtain ⟨A7, c7, rfl⟩ := h7; have HH7 := Lib.hid hh7.tail; clear HH hh7)
      go_roundw
      case rel =>
        refine ⟨k + 1, by omega, by go_num, A7, c7, rfl, ?_⟩
        have h := HH7.out
        rw [← bytes_append, ← HS.out] at h
        exact Lib.hid h
      case measure => simp [intOf]; omega
    · obtain rfl : k = n := by omega
      have ht : xs.take k = xs := List.take_of_length_le (by rw [← Hn.out]; exact Nat.le_refl _)
      rw [ht] at HH
      have hcv : (convert 33 9 (.slice vA (8 * k) vc)).run Tryz.prog wr = .ok (.string ⟨(numsO xs).toArray⟩) wr := run_conv_str wr _ _ 5 Tryz.underlying33 Tryz.underlying5 Tryz.underlying9 _ _ vA (8 * k) vc (numsO xs) (by rw [numsO_len, ← Hn.out]) (HH.out.rowRd 0 rfl)
      clear ht
      go_wp2_with fail
      go_ret
      exact ⟨rfl, HH.out.ext⟩
end Go.Proofs.YtfongpdeflfioaaGreat
/- store.index. -/
namespace Go.Proofs.YtfongpdeflfioaaGreat
open Go.RowKit Go.Maps Go.Sort Go.Shelf
set_option linter.unusedVariables false
set_option linter.unusedSimpArgs false
def idxT (l : List Ob) : List ByteArray := l.flatMap fun x => [x.key, num8 (x.data.n : Int), ⟨(numsO x.locs.xs).toArray⟩]
theorem idxT_take (l : List Ob) (k : Nat) (h : k < l.length) : idxT (l.take (k + 1)) = idxT (l.take k) ++ [l[k].key, num8 (l[k].data.n : Int), ⟨(numsO l[k].locs.xs).toArray⟩] := by
  rw [List.take_succ_eq_append_getElem h, idxT, List.flatMap_append]; simp [idxT]
theorem idxT_len (l : List Ob) : (idxT l).length = 3 * l.length := by
  induction l with
  | nil => rfl
  | cons x l ih => rw [idxT, List.flatMap_cons, List.length_append, show (l.flatMap _).length = _ from ih, List.length_cons]; simp; omega
set_option maxRecDepth 100000 in
set_option maxHeartbeats 8000000 in
theorem index_any (w : World) (s : Sl Ob) (h : Sl.At w 0 w.heap.size Ob.cells (Ob.At w 0 w.heap.size) s) (hN : s.n ≤ 10000000) (hL : ∀ x ∈ s.xs, x.locs.n ≤ 10000000) : Calls Tryz.prog 46 #[s.val] w (WriteOk (idxT s.xs) w) := by
  obtain ⟨i0, hi0, hz0, hz1, hz2⟩ := info_parts info9
  have HR := Lib.hid h.rd
  have HA := Lib.hid h.all
  have Hn := Lib.hid h.len
  have HLm := Lib.hid hL
  clear h hL
  obtain ⟨A, n, c, xs⟩ := s
  simp only [Sl.val] at *
  go_enter Tryz.func46, Tryz.ntmps46
  go_upto_region 3 with fail
  have HH := Lib.hid (show Heap w [.row 9 1 (.slice none 0 0) 0 []] w from (Heap.start w).row0)
  go_loopw [4, 9] (fun v i wr => ∃ k : Nat, k ≤ n ∧ i = .int .i64 k ∧ (∃ vA vc, v = .slice vA (3 * k) vc ∧ Hid (Heap w [.row 9 1 (.slice vA (3 * k) vc) (3 * k) ((idxT (xs.take k)).map Value.string)] wr))) (fun _ i _ => n - (intOf i).toNat)
  case atStart => exact ⟨0, Nat.zero_le _, rfl, _, _, rfl, HH⟩
  case round =>
    clear HH
    obtain ⟨k, hk, rfl, vA, vc, rfl, HH⟩ := hrel
    by_cases hlt : k < n
    · have l1 : k < xs.length := by rw [← Hn.out]; exact hlt
      obtain ⟨b1, o1, rfl, hb1, f0, f1, f2⟩ := rd_ob (HR.out.ext HH.out.ext (Nat.le_refl _)) l1
      have HL := Lib.hid (HA.out _ (List.getElem_mem l1))
      have hlm := HLm.out _ (List.getElem_mem l1)
      have HS := Lib.hid (idxT_take xs k l1)
      generalize idxT (xs.take k) = Y at *
      generalize xs[k] = x at *
      obtain ⟨key, ⟨dA, dn, dc, dx⟩, lo⟩ := x
      have hdn : dn ≤ 9223372036854775807 := Nat.le_trans HL.out.data.le HL.out.data.cap
      simp only [Sl.val] at f1
      dsimp only at f0 f2 hlm
      have HNs := Lib.hid (fun W (hW : Ext w W) => snums_any W lo (Loc.At.on HL.out.locs hW (Nat.le_refl _)) hlm)
      obtain ⟨lA, ln, lc, lx⟩ := lo
      simp only [Sl.val] at f2 HNs
      clear HL
      go_upto_region 5 with fail
      generalize hwH : World.alloc wr _ = w5
      have HH2 := Lib.hid (HH.out.allocE hwH)
      clear HH hwH f0 f1 f2
      have HHd := Lib.hid HH2.out.drew
      clear HH2
      refine wp_region_held_drew (S := Heap w [_]) (by kernel_rfl) (HHd.out.only 0 rfl) (fun hHeld => ?_)
      generalize World.drew w5 = wd at *
      refine tS 0 ?_; (try simp only [Act.put, lyA, lyB, lyC])
      refine tS 1 ?_; (try simp only [Act.put, lyA, lyB, lyC])
      refine tG 2 rfl (fun wT hST => sh_run_load1 hST rfl rfl 0 rfl rfl (by kernel_rfl)) hHeld ?_; (try simp only [Act.put, lyA, lyB, lyC])
      refine tS 3 ?_; (try simp only [Act.put, lyA, lyB, lyC])
      refine tG 4 rfl (fun wT hST => sh_run_load1 hST rfl rfl 0 rfl rfl (by kernel_rfl)) hHeld ?_; (try simp only [Act.put, lyA, lyB, lyC])
      refine tS 5 ?_; (try simp only [Act.put, lyA, lyB, lyC])
      refine tS 10 ?_; (try simp only [Act.put, lyA, lyB, lyC])
      refine tG 11 rfl (fun wT hST => sh_run_load1 hST rfl rfl 0 rfl rfl (by kernel_rfl)) hHeld ?_; (try simp only [Act.put, lyA, lyB, lyC])
      refine oS 6 (fun K hK => ?_)
      go_simp; generalize hwA : World.alloc _ _ = w6; have HH6 := Lib.hid ((HHd).out.allocE hwA); clear hwA HHd
      refine hK.out _ _ ((HH6).out.only 1 rfl) (fun hHeld => ?_); clear hK K; (try simp only [Act.put, lyA, lyB, lyC])
      refine oS 7 (fun K hK => ?_)
      go_simp; refine (numbers_any w6 _ 1 1 [(dn : Int)] rfl ((HH6.out.boxRd 0 rfl).m0) (by omega) (by simp; omega)).mono ?_; rintro e w7 ⟨vw7, rfl, hownw7, ew7⟩; obtain ⟨Aw7, cw7, rfl, _, _, _⟩ := own_form hownw7; have HH7 := Lib.hid ((HH6).out.addRow ew7 hownw7); clear HH6 hownw7 ew7; go_wp2_with fail
      obtain ⟨g7, q7, hf⟩ := HH7.out.rowForm 0 rfl (by decide)
      cases hf
      refine hK.out _ _ ((HH7).out.only 2 rfl) (fun hHeld => ?_); clear hK K; (try simp only [Act.put, lyA, lyB, lyC])
      refine tS 8 ?_; (try simp only [Act.put, lyA, lyB, lyC])
      refine twoH 9 12 rfl rfl (by kernel_rfl) (by kernel_rfl) (by kernel_rfl) (fun K hK => ?_) (fun K hK => ?_)
      · have c7 : w7.cell? ⟨g7, 0, none⟩ = some (.string (num8 dn)) := (HH7.out.rowAt 0 rfl).cellAt 0 (by decide)
        go_simp
        refine hK.out _ _ ((HH7).out.only 2 rfl) (fun hHeld => ?_); clear hK K; (try simp only [Act.put, lyA, lyB, lyC])
        clear c7
        refine oS 12 (fun K hK => ?_)
        go_simp; refine (HNs.out w7 HH7.out.ext).mono ?_; rintro e w8 ⟨rfl, ew8⟩; have HH8 := Lib.hid ((HH7).out.later ew8); clear HH7 ew8; go_wp2_with fail
        refine hK.out _ _ ((HH8).out.only 2 rfl) (fun hHeld => ?_); clear hK K; (try simp only [Act.put, lyA, lyB, lyC])
        refine oS 13 (fun K hK => ?_)
        go_simp; generalize hwA : World.alloc _ _ = w9; have HH9 := Lib.hid ((HH8).out.allocE hwA); clear hwA HH8; refine hK.out _ _ ((HH9).out.only 3 rfl) (fun hHeld => ?_); clear hK K; (try simp only [Act.put, lyA, lyB, lyC]); refine oS 14 (fun K hK => ?_); refine sh_app (.tmp 13) (.tmp 26) _ rfl Tryz.underlying126 hi0 hz0 hz1 hz2 rfl (by omega) HH9.out 4 rfl rfl (m := 3) rfl rfl ((HH9.out.boxRd 0 rfl).m0) (by simp [Value.oneCell']) (by simp only [maxLen]; omega) (by omega) ?_; rintro v10 w10 hh10 ⟨A10, c10, rfl⟩; have HH10 := Lib.hid hh10; clear hh10 HH9; refine hK.out _ _ ((HH10).out.only 3 rfl) (fun hHeld => ?_); clear hK K; (try simp only [Act.put, lyA, lyB, lyC]); refine tS 15 ?_; (try simp only [Act.put, lyA, lyB, lyC]); refine wpAnyH_done (by kernel_rfl) ?_ _; go_wp2_with fail; go_roundw; (case rel => refine ⟨k + 1, by omega, by go_num, A10, c10, rfl, ?_⟩; have h := HH10.out.only 4 rfl; rw [HS.out, List.map_append]; exact Lib.hid h); (case measure => simp [intOf]; omega)
      · go_simp
        refine (HNs.out w7 HH7.out.ext).mono ?_
        rintro e w8 ⟨rfl, e8⟩
        have HH8 := Lib.hid (HH7.out.later e8)
        clear HH7 e8
        go_wp2_with fail
        refine hK.out _ _ ((HH8).out.only 2 rfl) (fun hHeld => ?_); clear hK K; (try simp only [Act.put, lyA, lyB, lyC])
        have c7 : w8.cell? ⟨g7, 0, none⟩ = some (.string (num8 dn)) := (HH8.out.rowAt 0 rfl).cellAt 0 (by decide)
        refine oS 9 (fun K hK => ?_)
        go_simp
        refine hK.out _ _ ((HH8).out.only 2 rfl) (fun hHeld => ?_); clear hK K; (try simp only [Act.put, lyA, lyB, lyC])
        clear c7
        refine oS 13 (fun K hK => ?_)
        go_simp; generalize hwA : World.alloc _ _ = w9; have HH9 := Lib.hid ((HH8).out.allocE hwA); clear hwA HH8; refine hK.out _ _ ((HH9).out.only 3 rfl) (fun hHeld => ?_); clear hK K; (try simp only [Act.put, lyA, lyB, lyC]); refine oS 14 (fun K hK => ?_); refine sh_app (.tmp 13) (.tmp 26) _ rfl Tryz.underlying126 hi0 hz0 hz1 hz2 rfl (by omega) HH9.out 4 rfl rfl (m := 3) rfl rfl ((HH9.out.boxRd 0 rfl).m0) (by simp [Value.oneCell']) (by simp only [maxLen]; omega) (by omega) ?_; rintro v10 w10 hh10 ⟨A10, c10, rfl⟩; have HH10 := Lib.hid hh10; clear hh10 HH9; refine hK.out _ _ ((HH10).out.only 3 rfl) (fun hHeld => ?_); clear hK K; (try simp only [Act.put, lyA, lyB, lyC]); refine tS 15 ?_; (try simp only [Act.put, lyA, lyB, lyC]); refine wpAnyH_done (by kernel_rfl) ?_ _; go_wp2_with fail; go_roundw; (case rel => refine ⟨k + 1, by omega, by go_num, A10, c10, rfl, ?_⟩; have h := HH10.out.only 4 rfl; rw [HS.out, List.map_append]; exact Lib.hid h); (case measure => simp [intOf]; omega)
    · obtain rfl : k = n := by omega
      have ht : xs.take k = xs := List.take_of_length_le (by rw [← Hn.out]; exact Nat.le_refl _)
      rw [ht] at HH
      have HWr := Lib.hid (write_any wr vA (3 * k) vc (idxT xs) (by rw [idxT_len, ← Hn.out]) (by omega) ((HH.out.rowRd 0 rfl).m0))
      clear ht
      go_wp2_with fail
      refine HWr.out.mono ?_
      rintro e w8 ⟨v, rfl, hr8, e8⟩
      have HO := Lib.hid (own_lower hr8 HH.out.ext.size)
      clear hr8
      go_wp2_with fail
      go_ret2
      exact ⟨v, rfl, HO.out, HH.out.ext.trans e8⟩
end Go.Proofs.YtfongpdeflfioaaGreat
/- uber.Check. -/
namespace Go.Proofs.YtfongpdeflfioaaGreat
open Go.RowKit Go.Maps Go.Sort Go.Shelf
set_option linter.unusedVariables false
set_option linter.unusedSimpArgs false
def ubE (u : Ub) : Int := if u.txg < 1 ∨ 1099511627776 < u.txg ∨ u.first < 0 ∨ u.first = 1 ∨ 8192 ≤ u.first ∨ u.objs < 0 ∨ 1024 < u.objs ∨ ¬ (u.first = 0 ↔ u.objs = 0) then 4 else 0
set_option maxRecDepth 100000 in
set_option maxHeartbeats 4000000 in
theorem ucheck_any (w : World) (u : Ub) (h : u.wf) : Calls Tryz.prog 40 #[.agg u.cells.toArray] w fun e w' => e = .returned (.int .i64 (ubE u)) ∧ Ext w w' := by
  obtain ⟨t0, t1, f0, f1, o0, o1⟩ := h
  have HV := Lib.hid (show ubE u = if u.txg < 1 ∨ 1099511627776 < u.txg ∨ u.first < 0 ∨ u.first = 1 ∨ 8192 ≤ u.first ∨ u.objs < 0 ∨ 1024 < u.objs ∨ ¬ (u.first = 0 ↔ u.objs = 0) then 4 else 0 from rfl)
  generalize ubE u = V at *
  obtain ⟨t, f, o⟩ := u
  simp only [Ub.cells] at *
  go_enter Tryz.func40, Tryz.ntmps40
  go_upto_region 1 with fail
  generalize hw1 : World.alloc w _ = w1; obtain ⟨ew1, zw1, Gw1⟩ := box_cells hw1; have gw1_0 := Gw1 0 _ rfl; have gw1_1 := Gw1 1 _ rfl; have gw1_2 := Gw1 2 _ rfl; have Zw1 := Lib.hid zw1; clear zw1 hw1 Gw1
  have g0 := gw1_0 w1 (Ext.refl _)
  have g1 := gw1_1 w1 (Ext.refl _)
  have g2 := gw1_2 w1 (Ext.refl _)
  clear gw1_0 gw1_1 gw1_2
  go_wp2_with fail
  all_goals (go_ret; refine ⟨retI ?_, ew1⟩; rw [HV.out]; clear g0 g1 g2)
  all_goals try (first | (rw [if_pos (by omega)]; done) | (rw [if_neg (by omega)]; done) | (simp_all; done))
  all_goals
    cases e2 : (o == 0)
    · have q2 : o ≠ 0 := by simpa using e2
      first
        | (have e1 : (f == 0) = false := by (simp; omega)
           simp only [e1, e2] at *
           first | (rw [if_pos (by omega)]; done) | (rw [if_neg (by omega)]; done) | (simp at *; done) | (simp at *; omega))
        | (simp only [e2] at *
           first | (rw [if_pos (by omega)]; done) | (rw [if_neg (by omega)]; done) | (simp at *; done) | (simp at *; omega))
    · have q2 : o = 0 := by simpa using e2
      first
        | (have e1 : (f == 0) = false := by (simp; omega)
           simp only [e1, e2] at *
           first | (rw [if_pos (by omega)]; done) | (rw [if_neg (by omega)]; done) | (simp at *; done) | (simp at *; omega))
        | (simp only [e2] at *
           first | (rw [if_pos (by omega)]; done) | (rw [if_neg (by omega)]; done) | (simp at *; done) | (simp at *; omega))
end Go.Proofs.YtfongpdeflfioaaGreat
