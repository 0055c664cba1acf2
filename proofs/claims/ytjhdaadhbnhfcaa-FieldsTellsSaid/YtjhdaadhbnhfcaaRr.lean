/- The walk of the reference's Read. -/
import Derived.Test.YtjhdaadhbnhfcaaRnum
namespace Go.Proofs.Ytjhdaadhbnhfcaa
open Go.RowKit

theorem run_slice_mid {P : Program} (w : World) (t e : TypeId) (i : TypeInfo) (size : Nat) (ht : P.underlying t = some (.slice e)) (hi : P.info? e = some i) (hs : i.size = size) (A : Option Addr) (n c k m : Nat) (K M : Int) (hK : K = (k : Int)) (hM : M = (m : Int)) (hk : k ≤ m) (hm : m ≤ c) :
    (Instr.slice t (.slice A n c) (some (.int .i64 K)) (some (.int .i64 M)) none).run P w = .ok (.slice (shiftA A c k size) (m - k) (c - k)) w := by
  subst hK
  subst hM
  subst hs
  have hb : (Instr.sliceBounds true n c (some (.int .i64 (k : Int))) (some (.int .i64 (m : Int))) none).run P w = .ok (k, m, c) w := by
    simp [Instr.sliceBounds, run_sliceBound (P := P) w .i64 (m : Int) c .sliceAcap (by omega) (by omega), run_sliceBound (P := P) w .i64 (k : Int) m .sliceB (by omega) (by omega)]
  simp [Instr.slice, run_underlying ht, hb, sizeOf, typeInfo, hi, shiftA]

set_option maxHeartbeats 2000000 in
theorem rread_any (w : World) (A : Option Addr) (n c : Nat) (l : List UInt8) (hn : n = l.length) (hnc : n ≤ c) (hr : Rd w 0 w.heap.size A (bytes l)) (hb : n ≤ 150000000000000) (hc : c ≤ 9223372036854775807) :
    Calls Try.prog 15 #[.slice A n c] w (ReadOk l w) := by
  obtain ⟨i0, hi0, hz0, hz1, hz2⟩ := info_parts info9
  obtain ⟨j0, hj0, hy0, hy1, hy2⟩ := info_parts info5
  have Hn := Lib.hid hn
  by_cases h2 : n < 2
  · have HR : Hid (rd l = (8, [])) := by rw [Hid, rd, if_pos (by omega)]
    clear hn
    go_enter Try.func15, Try.ntmps15
    go_wp2_with fail
    go_ret2
    exact read_fail HR.out (Ext.refl _)
  · have h2l : ¬ l.length < 2 := by omega
    obtain ⟨t1, t2⟩ := two_small l h2l
    have T1 := Lib.hid t1
    have T2 := Lib.hid t2
    have HL2 : Hid (2 = (l.take 2).length) := by rw [Hid, List.length_take]; omega
    have hrt : Rd w 0 w.heap.size A (bytes (l.take 2)) := by
      have := hr.take 2
      rwa [bytes_take] at this
    have HR : Hid (rd l = if 1024 < val (l.take 2) then (3, []) else rl (val (l.take 2)) (l.drop 2) []) := by rw [Hid, rd, if_neg h2l]
    have hc2 : (2 : Int) ≤ (c : Int) := by omega
    clear t1 t2 hn h2l
    generalize val (l.take 2) = N at *
    go_enter Try.func15, Try.ntmps15
    go_wp2_with fail
    refine (rnumber_any w A 2 c _ _ (l.take 2) HL2.out (by omega) hrt (Nat.le_refl _)).mono ?_
    rintro e w2 ⟨rfl, e2⟩
    rw [T1.out]
    clear hrt hc2
    by_cases h3 : 1024 < N
    · have HRes := Lib.hid (by have h := HR.out; rw [if_pos h3] at h; exact h : rd l = (3, []))
      go_wp2_with fail
      go_ret2
      exact read_fail HRes.out e2
    · have HRes := Lib.hid (by have h := HR.out; rw [if_neg h3] at h; exact h : rd l = rl N (l.drop 2) [])
      go_wp2_with fail
      go_loopw [6, 7, 8] (fun a o i wr => ∃ (k t : Nat) (out : List ByteArray), k ≤ N ∧ i = .int .i64 k ∧ a = .int .i64 t ∧ t ≤ n ∧
        out.length ≤ k ∧ wr.ownsRow w.heap.size 9 1 o out.length (out.map Value.string) ∧ rl (N - k) (l.drop t) out = rd l ∧ Ext w wr) (fun _ _ i _ => N - (intOf i).toNat)
      case atStart => exact ⟨0, 2, [], Nat.zero_le _, rfl, rfl, by omega, Nat.le_refl _, World.ownsRow_nil _ _ _ _, HRes.out.symm, e2⟩
      case round =>
        obtain ⟨k, t, out, hk, rfl, rfl, ht, hol, hown, hrun, e3⟩ := hrel
        by_cases hlt : k < N
        · have hNk : N - k = (N - (k + 1)) + 1 := by omega
          rw [hNk, rl] at hrun
          clear hNk
          rw [List.length_drop, ← Hn.out] at hrun
          by_cases r3 : n < t + 3
          · rw [if_pos (by omega)] at hrun
            have HRun := Lib.hid hrun.symm
            clear hrun
            have r3' : (n : Int) < (t : Int) + 3 := by omega
            go_wp2_with fail
            go_ret2
            exact read_fail HRun.out e3
          · rw [if_neg (by omega)] at hrun
            have hl3 : ¬ (l.drop t).length < 3 := by rw [List.length_drop, ← Hn.out]; omega
            obtain ⟨t1, t2, t3⟩ := three_small (l.drop t) hl3
            have T3 := Lib.hid t1
            rw [List.drop_drop] at hrun
            have HRun := Lib.hid hrun
            have HL3 : Hid (3 = ((l.drop t).take 3).length) := by rw [Hid, List.length_take, List.length_drop, ← Hn.out]; omega
            have hlen : (bytes l).length = n * 1 := by rw [bytes_length, ← Hn.out, Nat.mul_one]
            have hs3 : ∀ W, (Instr.slice 30 (.slice A n c) (some (.int .i64 (t : Int))) (some (.int .i64 ((t : Int) + 3))) none).run Try.prog W = .ok (.slice (shiftA A c t 1) (t + 3 - t) (c - t)) W := fun W => run_slice_mid W 30 5 j0 1 Try.underlying30 hj0 hy1 A n c t (t + 3) _ _ rfl (by omega) (by omega) (by omega)
            have hrd3 : Rd w 0 w.heap.size (shiftA A c t 1) (bytes ((l.drop t).take 3)) := by
              have := (hr.from_ hlen (k := t) (by omega) hnc).take 3
              rwa [Nat.mul_one, bytes_drop, bytes_take] at this
            clear hrun t1 t2 hl3
            rw [Nat.add_sub_cancel_left] at hs3
            generalize val ((l.drop t).take 3) = q at *
            go_wp2_with fail
            refine (rnumber_any wr _ 3 _ _ _ ((l.drop t).take 3) HL3.out (by omega) (hrd3.ext e3 (Nat.le_refl _)) e3.size).mono ?_
            rintro e w4 ⟨rfl, e4⟩
            rw [T3.out]
            have e5 : Ext w w4 := by (repeat (first | exact Below.refl _ _ | exact Ext.refl _ | assumption | refine Below.drew ?_ | refine below_drewN ?_ _ | refine below_alloc ?_ (by first | exact Nat.le_refl _ | assumption | (simp; done) | omega | (simp; omega)) _ | refine below_ext ?_ (by assumption) (by first | exact Nat.le_refl _ | assumption | (simp; done) | omega | (simp; omega)) | refine Ext.drew ?_ | refine Ext.drewN ?_ _ | refine Ext.alloc ?_ _ | refine Ext.setCell ?_ (by first | assumption | (simp; done) | (simp; omega)) _ | refine Below.setCell ?_ (by first | assumption | (simp; done) | (simp; omega)) _ | refine Ext.trans ?_ (by assumption)))
            clear hs3
            by_cases r4 : 65536 < q
            · have HRes := Lib.hid (by have h := HRun.out; rw [if_pos r4] at h; exact h.symm : rd l = (5, []))
              go_wp2_with fail
              go_ret2
              exact read_fail HRes.out e5
            · have hdl : (l.drop (t + 3)).length = n - (t + 3) := by rw [List.length_drop, ← Hn.out]
              by_cases r5 : n < t + 3 + q
              · have HRes := Lib.hid (by have h := HRun.out; rw [if_neg r4, if_pos (by rw [hdl]; omega)] at h; exact h.symm : rd l = (8, []))
                have r5' : (n : Int) < (t : Int) + 3 + q := by omega
                go_wp2_with fail
                go_ret2
                exact read_fail HRes.out e5
              · have HRes := Lib.hid (by have h := HRun.out; rw [if_neg r4, if_neg (by rw [hdl]; omega), List.drop_drop] at h; exact h)
                obtain ⟨S, hS⟩ : ∃ S : ByteArray, S = ⟨((l.drop (t + 3)).take q).toArray⟩ := ⟨_, rfl⟩
                have hsq : ∀ W, (Instr.slice 30 (.slice A n c) (some (.int .i64 ((t : Int) + 3))) (some (.int .i64 ((t : Int) + 3 + q))) none).run Try.prog W = .ok (.slice (shiftA A c (t + 3) 1) (t + 3 + q - (t + 3)) (c - (t + 3))) W := fun W => run_slice_mid W 30 5 j0 1 Try.underlying30 hj0 hy1 A n c (t + 3) (t + 3 + q) _ _ (by omega) (by omega) (by omega) (by omega)
                rw [Nat.add_sub_cancel_left] at hsq
                have hcv : (convert 30 9 (.slice (shiftA A c (t + 3) 1) q (c - (t + 3)))).run Try.prog w4 = .ok (.string S) w4 := by
                  rw [hS]
                  refine run_conv_str w4 _ _ 5 Try.underlying30 Try.underlying5 Try.underlying9 0 w.heap.size _ q _ ((l.drop (t + 3)).take q) ?_ ?_
                  · rw [List.length_take, hdl]
                    omega
                  · have := ((hr.from_ hlen (k := t + 3) (by omega) hnc).take q).ext e5 (Nat.le_refl _)
                    rwa [Nat.mul_one, bytes_drop, bytes_take] at this
                have HSq := Lib.hid hS
                have own2 := own_ext hown e4
                clear hS hrd3 hown e4 hlen hdl
                go_wp2_with
                  (at_builtin
                   refine list_app _ rfl (.tmp 50) (.tmp 60) _ rfl 9 i0 _ 1 16 Try.underlying26 hi0 hz0 hz1 hz2 rfl (by omega) _ _ out.length _ rfl (own2.alloc _) 0 _ _ 1 1 [.string S] rfl rfl
                     ((rd_new _ _ _).more (Nat.zero_le _) (Nat.le_refl _)) (by simp [Value.oneCell']) (by simp only [maxLen]; omega) (by omega) (by have := e5.size; simp; omega) ?_
                   intro v7 w7 hown7 he7 _ _
                   have e9 : Ext w w7 := he7 _ (e5.alloc _) (Nat.le_refl _)
                   clear he7 own2)
                go_roundw
                case rel =>
                  refine ⟨k + 1, t + 3 + q, out ++ [S], by omega, by go_num, by go_num, by omega, ?_, ?_, ?_, e9⟩
                  · rw [List.length_append]; simp; omega
                  · rw [List.length_append, List.map_append]; exact hown7
                  · rw [HSq.out]; exact HRes.out
                case measure => simp [intOf]; omega
        · obtain rfl : k = N := by omega
          rw [Nat.sub_self, rl, List.length_drop, ← Hn.out] at hrun
          by_cases r0 : 0 < n - t
          · rw [if_pos r0] at hrun
            have HRun := Lib.hid hrun.symm
            clear hrun
            have b0 : ((t : Int) != (n : Int)) = true := by simp; omega
            go_wp2_with fail
            go_ret2
            exact read_fail HRun.out e3
          · rw [if_neg r0] at hrun
            have HRun := Lib.hid hrun.symm
            clear hrun
            obtain rfl : t = n := by omega
            go_wp2_with fail
            go_ret2
            exact ⟨_, by rw [HRun.out]; rfl, by rw [HRun.out]; exact hown, e3⟩
end Go.Proofs.Ytjhdaadhbnhfcaa
