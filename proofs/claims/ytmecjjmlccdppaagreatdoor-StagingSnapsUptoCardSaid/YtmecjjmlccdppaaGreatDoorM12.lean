/- The texts Rpth in one file. -/
import Derived.Test.YtmecjjmlccdppaaGreatDoorM11
/- The reference's Parts (a text cut at the octet 47) and its Path: the walks. -/
namespace Go.Proofs.YtmecjjmlccdppaaGreatDoor
open Go.RowKit
set_option linter.unusedVariables false
set_option linter.unusedSimpArgs false

theorem infoS : (Tryz.prog.info? 9).map (fun i => (i.zero, i.size, i.bytes)) = some (some (.string .empty), 1, 16) := by kernel_rfl
theorem cut_data (s : ByteArray) (a b : Nat) : (s.extract a b).data.toList = (s.data.toList.take b).drop a := by
  rw [ByteArray.data_extract, Array.toList_extract, List.extract_eq_take_drop, List.take_drop]
  by_cases h : a ≤ b
  · rw [Nat.add_sub_cancel' h]
  · have h1 : b - a = 0 := by omega
    rw [h1, Nat.add_zero, List.drop_eq_nil_of_le (by simp; omega), List.drop_eq_nil_of_le (by simp; omega)]
/-- what Parts tells: a row of the parts -/
def PartsOk (s : ByteArray) (w : World) (e : Ending) (w' : World) : Prop :=
  ∃ (ps : List ByteArray) (v : Value), e = .returned v ∧ ps.map (·.data.toList) = parts s.data.toList ∧ w'.ownsRow w.heap.size 9 1 v ps.length (ps.map Value.string) ∧ Ext w w'
theorem go_on (s : ByteArray) (t k : Nat) (hk : k < s.size) (ht : t ≤ k) (out : List ByteArray) (h : parts s.data.toList = out.map (·.data.toList) ++ partsGo ((s.data.toList.take k).drop t) (s.data.toList.drop k)) :
    (s[k]'hk ≠ 47 → parts s.data.toList = out.map (·.data.toList) ++ partsGo ((s.data.toList.take (k + 1)).drop t) (s.data.toList.drop (k + 1))) ∧
    (s[k]'hk = 47 → parts s.data.toList = (out ++ [s.extract t k]).map (·.data.toList) ++ partsGo ((s.data.toList.take (k + 1)).drop (k + 1)) (s.data.toList.drop (k + 1))) := by
  have hl : k < s.data.toList.length := by rw [len_data]; exact hk
  have hg : s.data.toList[k]'hl = s[k]'hk := rfl
  rw [List.drop_eq_getElem_cons hl, partsGo, hg] at h
  constructor
  · intro hn
    rw [if_neg hn] at h
    rw [h, List.take_succ_eq_append_getElem hl, List.drop_append_of_le_length (by rw [List.length_take]; omega), hg]
  · intro he
    rw [if_pos he] at h
    have z : (s.data.toList.take (k + 1)).drop (k + 1) = [] := List.drop_eq_nil_of_le (by rw [List.length_take]; omega)
    rw [h, List.map_append, List.map_cons, List.map_nil, cut_data, List.append_assoc, List.singleton_append, z]
theorem go_end (s : ByteArray) (t : Nat) (out : List ByteArray) (h : parts s.data.toList = out.map (·.data.toList) ++ partsGo ((s.data.toList.take s.size).drop t) (s.data.toList.drop s.size)) : (out ++ [s.extract t s.size]).map (·.data.toList) = parts s.data.toList := by
  have z : s.data.toList.drop s.size = [] := List.drop_eq_nil_of_le (by rw [len_data]; exact Nat.le_refl _)
  rw [z, partsGo] at h
  rw [h, List.map_append, List.map_cons, List.map_nil, cut_data]

set_option maxRecDepth 100000 in
set_option maxHeartbeats 2000000 in
theorem rparts_any (s : ByteArray) (w : World) (hs : s.size < 4294967281) : Calls Tryz.prog 60 #[.string s, .int .u8 47] w (PartsOk s w) := by
  obtain ⟨i0, hi0, hz0, hz1, hz2⟩ := info_parts infoS
  have HB := Lib.hid (go_on s)
  have HE := Lib.hid (go_end s)
  go_enter Tryz.func60, Tryz.ntmps60
  go_wp2_with fail
  go_loopw [5, 6, 7] (fun o a i wr => ∃ (k t : Nat) (out : List ByteArray), k ≤ s.size ∧ i = .int .i64 k ∧ a = .int .i64 t ∧ t ≤ k ∧ out.length ≤ k ∧
    wr.ownsRow w.heap.size 9 1 o out.length (out.map Value.string) ∧ parts s.data.toList = out.map (·.data.toList) ++ partsGo ((s.data.toList.take k).drop t) (s.data.toList.drop k) ∧ Ext w wr) (fun _ _ i _ => s.size - (intOf i).toNat)
  case atStart => exact ⟨0, 0, [], Nat.zero_le _, rfl, rfl, Nat.le_refl _, Nat.le_refl _, World.ownsRow_nil _ _ _ _, rfl, Ext.refl _⟩
  case round =>
    obtain ⟨k, t, out, hk, rfl, rfl, ht, hol, hown0, hrun, e1⟩ := hrel
    have hown := Lib.hid hown0
    clear hown0
    have HR := Lib.hid hrun
    clear hrun
    by_cases hlt : k < s.size
    · obtain ⟨G1, G2⟩ := HB.out t k hlt ht out HR.out
      have H1 := Lib.hid G1
      have H2 := Lib.hid G2
      clear G1 G2
      obtain ⟨y, hy⟩ : ∃ y, s[k]'hlt = y := ⟨_, rfl⟩
      rw [hy] at H1 H2
      by_cases h47 : y = 47
      · subst h47
        have H3 := Lib.hid (H2.out rfl)
        clear H1 H2
        have HO := Lib.hid (show (out.length + 1) * 16 ≤ 140737488355328 by omega)
        have HO2 := Lib.hid (show w.heap.size ≤ (wr.alloc (.cells #[.string (s.extract t k)] 9)).heap.size by have := e1.size; simp; omega)
        go_upto_region 7 with fail
        iterate 60 (first | at_builtin | go_step)
        refine list_app _ rfl (.tmp 19) (.tmp 24) _ rfl 9 i0 _ 1 16 Tryz.underlying48 hi0 hz0 hz1 hz2 rfl (by omega) _ _ out.length _ rfl (hown.out.alloc _) 0 _ _ 1 1 [.string (s.extract t k)] rfl rfl
          ((rd_new _ _ _).more (Nat.zero_le _) (Nat.le_refl _)) (by simp [Value.oneCell']) (by have := HO.out; simp only [maxLen]; omega) HO.out HO2.out ?_
        intro v7 w7 hown7 he7 _ _
        have e9 : Ext w w7 := he7 _ (e1.alloc _) (Nat.le_refl _)
        clear he7 hown
        go_wp2_with fail
        go_roundw
        case rel =>
          refine ⟨k + 1, k + 1, out ++ [s.extract t k], by omega, by go_num, by go_num, by omega, ?_, ?_, H3.out, e9⟩
          · rw [List.length_append]; simp; omega
          · rw [List.length_append, List.map_append]; exact hown7
        case measure => simp [intOf]; omega
      · have H3 := Lib.hid (H1.out h47)
        have hb : ¬ y.toNat = 47 := fun e => h47 (UInt8.toNat_inj.1 e)
        clear H1 H2
        go_wp2_with fail
        go_roundw
        case rel => exact ⟨k + 1, t, out, by omega, by go_num, rfl, by omega, by omega, hown.out, H3.out, e1⟩
        case measure => simp [intOf]; omega
    · obtain rfl : k = s.size := by omega
      have H3 := Lib.hid (HE.out t out HR.out)
      have HO := Lib.hid (show (out.length + 1) * 16 ≤ 140737488355328 by omega)
      have HO2 := Lib.hid (show w.heap.size ≤ (wr.alloc (.cells #[.string (s.extract t s.size)] 9)).heap.size by have := e1.size; simp; omega)
      go_upto_region 9 with fail
      iterate 60 (first | at_builtin | go_step)
      refine list_app _ rfl (.tmp 28) (.tmp 32) _ rfl 9 i0 _ 1 16 Tryz.underlying48 hi0 hz0 hz1 hz2 rfl (by omega) _ _ out.length _ rfl (hown.out.alloc _) 0 _ _ 1 1 [.string (s.extract t s.size)] rfl rfl
        ((rd_new _ _ _).more (Nat.zero_le _) (Nat.le_refl _)) (by simp [Value.oneCell']) (by have := HO.out; simp only [maxLen]; omega) HO.out HO2.out ?_
      intro v7 w7 hown7 he7 _ _
      have e9 : Ext w w7 := he7 _ (e1.alloc _) (Nat.le_refl _)
      clear he7 hown
      go_wp2_with fail
      go_ret
      refine ⟨out ++ [s.extract t s.size], v7, rfl, H3.out, ?_, e9⟩
      rw [List.length_append, List.map_append]; exact hown7

set_option maxRecDepth 100000 in
set_option maxHeartbeats 1000000 in
theorem rpath_any (s : ByteArray) (w : World) (hs : s.size < 4294967281) : Calls Tryz.prog 32 #[.string s] w fun e w' => e = .returned (.bool (pathB s)) ∧ Ext w w' := by
  by_cases h0 : s.size = 0
  · obtain rfl := empty_of s h0
    have hv := Lib.hid (show pathB ⟨#[]⟩ = true from rfl)
    go_enter Tryz.func32, Tryz.ntmps32
    go_wp2_with fail
    go_ret
    exact ⟨by rw [hv.out]; rfl, Ext.refl _⟩
  · have HS := Lib.hid (rparts_any s w hs)
    have b0 : s.toList.isEmpty = false := by
      rw [ByteArray.toList_eq, List.isEmpty_eq_false_iff]
      intro e
      have := len_data s
      rw [e] at this
      exact h0 this.symm
    have HP := Lib.hid (fun ps hp => pathB_of s (by omega) ps hp)
    have HF := Lib.hid (parts_fit s (by omega))
    have HL := Lib.hid (parts_len s)
    have HB := Lib.hid hs
    clear hs
    go_enter Tryz.func32, Tryz.ntmps32
    go_wp2_with fail
    refine HS.out.mono ?_
    rintro e w2 ⟨ps, v, rfl, hp, hown, e2⟩
    have hv := Lib.hid (HP.out ps hp)
    have hf := Lib.hid (HF.out ps hp)
    have hl := Lib.hid (HL.out ps hp)
    clear hp
    obtain ⟨A, c, rfl, hc, hc2, _⟩ := own_form hown
    have HR := Lib.hid (Rd.of_own hown)
    clear hown
    have hbig : ps.length ≤ 4294967299 := by have := hl.out; have := HB.out; omega
    go_wp2_with fail
    go_loopw [4] (fun i wr => ∃ k : Nat, k ≤ ps.length ∧ i = .int .i64 k ∧ (ps.take k).any noName = false ∧ Ext w2 wr) (fun i _ => ps.length - (intOf i).toNat)
    case atStart => exact ⟨0, Nat.zero_le _, rfl, rfl, Ext.refl _⟩
    case round =>
      obtain ⟨k, hk, rfl, hno, e3⟩ := hrel
      have HK := Lib.hid hno
      clear hno
      by_cases hlt : k < ps.length
      · obtain ⟨b1, o1, rfl, _, _, f0⟩ := rd_str (HR.out.ext e3 (Nat.le_refl _)) (k := k) (by omega)
        obtain ⟨y, hy⟩ : ∃ y, y = ps[k]'hlt := ⟨_, rfl⟩
        rw [← hy] at f0
        have HY := Lib.hid hy
        clear hy
        have HLT := Lib.hid hlt
        go_wp2_with fail
        refine (rname_any y _ (by have := hf.out y (by rw [HY.out]; exact List.getElem_mem _); exact this)).mono ?_
        rintro e w4 ⟨rfl, e4⟩
        cases ho : nameB y
        · have hq : pathB s = false := by
            rw [hv.out]
            have h1 : ps.any noName = true := List.any_eq_true.2 ⟨y, by rw [HY.out]; exact List.getElem_mem _, by rw [noName, ho]; rfl⟩
            rw [h1]
            simp
          have hv := Lib.hid hq
          clear hq
          go_wp2_with fail
          go_ret
          exact ⟨by rw [hv.out]; rfl, by (repeat (first | exact Below.refl _ _ | exact Ext.refl _ | assumption | refine Below.drew ?_ | refine below_drewN ?_ _ | refine below_alloc ?_ (by first | exact Nat.le_refl _ | assumption | (simp; done) | omega | (simp; omega)) _ | refine below_ext ?_ (by assumption) (by first | exact Nat.le_refl _ | assumption | (simp; done) | omega | (simp; omega)) | refine Ext.drew ?_ | refine Ext.drewN ?_ _ | refine Ext.alloc ?_ _ | refine Ext.setCell ?_ (by first | assumption | (simp; done) | (simp; omega)) _ | refine Below.setCell ?_ (by first | assumption | (simp; done) | (simp; omega)) _ | refine Ext.trans ?_ (by assumption)))⟩
        · go_wp2_with fail
          go_roundw
          case rel =>
            refine ⟨k + 1, HLT.out, by go_num, ?_, by (repeat (first | exact Below.refl _ _ | exact Ext.refl _ | assumption | refine Below.drew ?_ | refine below_drewN ?_ _ | refine below_alloc ?_ (by first | exact Nat.le_refl _ | assumption | (simp; done) | omega | (simp; omega)) _ | refine below_ext ?_ (by assumption) (by first | exact Nat.le_refl _ | assumption | (simp; done) | omega | (simp; omega)) | refine Ext.drew ?_ | refine Ext.drewN ?_ _ | refine Ext.alloc ?_ _ | refine Ext.setCell ?_ (by first | assumption | (simp; done) | (simp; omega)) _ | refine Below.setCell ?_ (by first | assumption | (simp; done) | (simp; omega)) _ | refine Ext.trans ?_ (by assumption)))⟩
            rw [List.take_succ_eq_append_getElem hlt, List.any_append, HK.out, ← HY.out]
            simp [noName, ho]
          case measure => (have := HLT.out; simp [intOf]; omega)
      · obtain rfl : k = ps.length := by omega
        have h1 := HK.out
        rw [List.take_of_length_le (Nat.le_refl _)] at h1
        have hq : pathB s = decide (ps.length ≤ 4) := by rw [hv.out, h1]; simp
        have hv := Lib.hid hq
        clear hq h1
        by_cases h4 : ps.length ≤ 4
        · have hd : decide ((ps.length : Int) ≤ 4) = true := by simp; omega
          have hq : pathB s = true := by rw [hv.out, decide_eq_true h4]
          have hv := Lib.hid hq
          clear hq
          go_wp2_with fail
          go_ret
          exact ⟨by rw [hv.out]; rfl, by (repeat (first | exact Below.refl _ _ | exact Ext.refl _ | assumption | refine Below.drew ?_ | refine below_drewN ?_ _ | refine below_alloc ?_ (by first | exact Nat.le_refl _ | assumption | (simp; done) | omega | (simp; omega)) _ | refine below_ext ?_ (by assumption) (by first | exact Nat.le_refl _ | assumption | (simp; done) | omega | (simp; omega)) | refine Ext.drew ?_ | refine Ext.drewN ?_ _ | refine Ext.alloc ?_ _ | refine Ext.setCell ?_ (by first | assumption | (simp; done) | (simp; omega)) _ | refine Below.setCell ?_ (by first | assumption | (simp; done) | (simp; omega)) _ | refine Ext.trans ?_ (by assumption)))⟩
        · have hd : decide ((ps.length : Int) ≤ 4) = false := by simp; omega
          have hq : pathB s = false := by rw [hv.out, decide_eq_false h4]
          have hv := Lib.hid hq
          clear hq
          go_wp2_with fail
          go_ret
          exact ⟨by rw [hv.out]; rfl, by (repeat (first | exact Below.refl _ _ | exact Ext.refl _ | assumption | refine Below.drew ?_ | refine below_drewN ?_ _ | refine below_alloc ?_ (by first | exact Nat.le_refl _ | assumption | (simp; done) | omega | (simp; omega)) _ | refine below_ext ?_ (by assumption) (by first | exact Nat.le_refl _ | assumption | (simp; done) | omega | (simp; omega)) | refine Ext.drew ?_ | refine Ext.drewN ?_ _ | refine Ext.alloc ?_ _ | refine Ext.setCell ?_ (by first | assumption | (simp; done) | (simp; omega)) _ | refine Below.setCell ?_ (by first | assumption | (simp; done) | (simp; omega)) _ | refine Ext.trans ?_ (by assumption)))⟩
end Go.Proofs.YtmecjjmlccdppaaGreatDoor
