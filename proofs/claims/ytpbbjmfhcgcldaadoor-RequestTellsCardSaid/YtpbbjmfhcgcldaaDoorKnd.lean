/- request.Kind, Changes, the reference's Kinds, Needs, Changes, and the example 'alive'. They read the table strings.asciiSpace as it was laid. -/
import Derived.Test.YtpbbjmfhcgcldaaDoorFld
import Derived.Test.YtpbbjmfhcgcldaaDoorShelf
namespace Go.Proofs.YtpbbjmfhcgcldaaDoor
open Go.RowKit
set_option linter.unusedVariables false
set_option linter.unusedSimpArgs false

def Tab (w : World) : Prop := Lib.TabIs Tryd.prog w "strings.asciiSpace" .u8 Lib.asciiSpaceTab
theorem Tab.ext {w w' : World} (h : Tab w) (e : Ext w w') : Tab w' := by
  unfold Tab Lib.TabIs World.var? at *
  cases hg : Tryd.prog.globalNamed "strings.asciiSpace" with
  | none => rw [hg] at h; cases h
  | some g =>
    rw [hg] at h
    simp only [Option.bind_some] at h ⊢
    have hlt : g < w.heap.size := by
      rcases Nat.lt_or_ge g w.heap.size with h' | h'
      · exact h'
      · rw [Array.getElem?_eq_none h'] at h; cases h
    rw [e.block g hlt]
    exact h
def kindsL : List UInt8 := [99, 114, 101, 97, 116, 101, 32, 100, 101, 115, 116, 114, 111, 121, 32, 115, 110, 97, 112, 115, 104, 111, 116, 32, 117, 110, 115, 110, 97, 112, 32, 114, 111, 108, 108, 98, 97, 99, 107, 32, 99, 108, 111, 110, 101, 32, 114, 101, 110, 97, 109, 101, 32, 104, 111, 108, 100, 32, 114, 101, 108, 101, 97, 115, 101, 32, 115, 101, 116, 32, 117, 110, 115, 101, 116, 32, 97, 108, 108, 111, 119, 32, 100, 101, 110, 121, 32, 119, 114, 105, 116, 101, 32, 102, 114, 101, 101, 32, 108, 105, 115, 116, 32, 105, 110, 102, 111, 32, 114, 101, 97, 100, 32, 115, 101, 110, 100, 32, 114, 101, 99, 101, 105, 118, 101, 32, 99, 104, 117, 110, 107, 32, 101, 110, 100, 32, 97, 98, 111, 114, 116, 32, 114, 101, 115, 117, 109, 101, 32, 116, 111, 107, 101, 110, 32, 100, 105, 115, 99, 97, 114, 100, 32, 108, 111, 103, 32, 104, 101, 108, 100]
def kindsS : ByteArray := ⟨kindsL.toArray⟩
def kindNames : List ByteArray := [⟨#[99, 114, 101, 97, 116, 101]⟩,
  ⟨#[100, 101, 115, 116, 114, 111, 121]⟩,
  ⟨#[115, 110, 97, 112, 115, 104, 111, 116]⟩,
  ⟨#[117, 110, 115, 110, 97, 112]⟩,
  ⟨#[114, 111, 108, 108, 98, 97, 99, 107]⟩,
  ⟨#[99, 108, 111, 110, 101]⟩,
  ⟨#[114, 101, 110, 97, 109, 101]⟩,
  ⟨#[104, 111, 108, 100]⟩,
  ⟨#[114, 101, 108, 101, 97, 115, 101]⟩,
  ⟨#[115, 101, 116]⟩,
  ⟨#[117, 110, 115, 101, 116]⟩,
  ⟨#[97, 108, 108, 111, 119]⟩,
  ⟨#[100, 101, 110, 121]⟩,
  ⟨#[119, 114, 105, 116, 101]⟩,
  ⟨#[102, 114, 101, 101]⟩,
  ⟨#[108, 105, 115, 116]⟩,
  ⟨#[105, 110, 102, 111]⟩,
  ⟨#[114, 101, 97, 100]⟩,
  ⟨#[115, 101, 110, 100]⟩,
  ⟨#[114, 101, 99, 101, 105, 118, 101]⟩,
  ⟨#[99, 104, 117, 110, 107]⟩,
  ⟨#[101, 110, 100]⟩,
  ⟨#[97, 98, 111, 114, 116]⟩,
  ⟨#[114, 101, 115, 117, 109, 101]⟩,
  ⟨#[116, 111, 107, 101, 110]⟩,
  ⟨#[100, 105, 115, 99, 97, 114, 100]⟩,
  ⟨#[108, 111, 103]⟩,
  ⟨#[104, 101, 108, 100]⟩]
theorem kinds_fields : Lib.fields kindsL = kindNames.map (·.data.toList) := by kernel_rfl
theorem kinds_ascii : kindsL.all (fun b => decide (b.toNat < 128)) = true := by kernel_rfl
theorem fields_any (w : World) (h : Tab w) (s : ByteArray) (hs : s = kindsS) : Calls Tryd.prog 24 #[.string s] w fun e w' =>
    e = .returned (.slice (some ⟨w.heap.size, 0, none⟩) 28 28) ∧ w' = w.alloc (.cells (kindNames.map Value.string).toArray 9) := by
  subst hs
  have h1 : kindsS.data.toList = kindsL := rfl
  have h2 := Tryd.strings_Fields kindsS w (by show kindsS.size < _; exact of_decide_eq_true (by kernel_rfl)) (fun j b hb => by
    rw [h1] at hb
    have := List.all_eq_true.1 kinds_ascii b (List.mem_of_getElem? hb)
    simpa using this) h
  refine h2.mono ?_
  rintro e w' ⟨rfl, rfl⟩
  rw [h1, kinds_fields]
  refine ⟨by rw [List.length_map]; rfl, ?_⟩
  rw [List.map_map]
  rfl
/-- a request's name -/
def kindB (kind : Int) : ByteArray := if 1 ≤ kind ∧ kind ≤ 28 then kindNames.getD (kind.toNat - 1) ⟨#[]⟩ else ⟨#[]⟩
theorem kindB_in (j : Nat) (hj : j < 28) : kindB ((j : Int) + 1) = kindNames.getD j ⟨#[]⟩ := by
  rw [kindB, if_pos (by omega)]
  congr 1
set_option maxRecDepth 100000 in
set_option maxHeartbeats 1000000 in
theorem kind_any (w : World) (h : Tab w) (kind : Int) (h0 : -9223372036854775808 ≤ kind) (h1 : kind ≤ 9223372036854775807) :
    Calls Tryd.prog 13 #[.int .i64 kind] w fun e w' => e = .returned (.string (kindB kind)) ∧ Ext w w' := by
  have HF := Lib.hid (fun s hs => fields_any w h s hs)
  clear h
  rcases (by omega : kind < 1 ∨ (1 ≤ kind ∧ 28 < kind) ∨ (1 ≤ kind ∧ kind ≤ 28)) with h2 | ⟨h2, h3⟩ | ⟨h2, h3⟩
  · have hv := Lib.hid (show kindB kind = ⟨#[]⟩ by rw [kindB, if_neg (by omega)])
    go_enter Tryd.func13, Tryd.ntmps13
    go_wp2_with fail
    refine (HF.out _ (by kernel_rfl)).mono ?_
    rintro e w2 ⟨rfl, rfl⟩
    go_wp2_with fail
    go_ret
    exact ⟨by rw [hv.out]; rfl, (Ext.refl _).alloc _⟩
  · have hv := Lib.hid (show kindB kind = ⟨#[]⟩ by rw [kindB, if_neg (by omega)])
    go_enter Tryd.func13, Tryd.ntmps13
    go_wp2_with fail
    refine (HF.out _ (by kernel_rfl)).mono ?_
    rintro e w2 ⟨rfl, rfl⟩
    go_wp2_with fail
    go_ret
    exact ⟨by rw [hv.out]; rfl, (Ext.refl _).alloc _⟩
  · obtain ⟨j, rfl⟩ : ∃ j : Nat, kind = (j : Int) + 1 := ⟨(kind - 1).toNat, by omega⟩
    have hj : j < 28 := by omega
    have hv := Lib.hid (kindB_in j hj)
    generalize kindB ((j : Int) + 1) = v at *
    have hg : (kindNames.map Value.string)[j]? = some (.string (kindNames.getD j ⟨#[]⟩)) := by
      rw [List.getElem?_map, List.getElem?_eq_getElem (show j < kindNames.length from hj)]
      simp [List.getD, show j < kindNames.length from hj]
    have hc : (w.alloc (.cells (kindNames.map Value.string).toArray 9)).cell? ⟨w.heap.size, j, none⟩ = some (.string (kindNames.getD j ⟨#[]⟩)) := cell_new w _ _ j (by simpa using hg)
    generalize kindNames.getD j ⟨#[]⟩ = u at *
    clear hg
    have e1 : Ext w (w.alloc (.cells (kindNames.map Value.string).toArray 9)) := (Ext.refl _).alloc _
    generalize hw1 : w.alloc (.cells (kindNames.map Value.string).toArray 9) = w1 at *
    have HW1 := Lib.hid hw1
    have HJ := Lib.hid hj
    have p0 : (0 : Int) ≤ j := by omega
    have p1 : (j : Int) < 28 := by omega
    have p2 : (j : Int) + 1 - 1 = j := by omega
    clear hw1 hj h0 h1 h2 h3
    go_enter Tryd.func13, Tryd.ntmps13
    go_wp2_with fail
    refine (HF.out _ (by kernel_rfl)).mono ?_
    rintro e w2 ⟨rfl, hw2⟩
    subst hw2
    go_wp2_with fail
    go_ret
    exact ⟨by rw [hv.out]; rfl, e1⟩
def chB (k : Int) : Bool := decide ((1 ≤ k ∧ k ≤ 15) ∨ (20 ≤ k ∧ k ≤ 24) ∨ k = 26)
set_option maxRecDepth 100000 in
set_option maxHeartbeats 1000000 in
theorem changes_any (w : World) (k : Int) (h0 : -9223372036854775808 ≤ k) (h1 : k ≤ 9223372036854775807) : Calls Tryd.prog 14 #[.int .i64 k] w fun e w' => e = .returned (.bool (chB k)) ∧ w = w' := by
  have hcase : (chB k = false ∧ k < 1) ∨ (chB k = true ∧ 1 ≤ k ∧ k ≤ 15) ∨ (chB k = false ∧ 16 ≤ k ∧ k < 20) ∨ (chB k = true ∧ 20 ≤ k ∧ k ≤ 24) ∨ (chB k = false ∧ k = 25) ∨ (chB k = true ∧ k = 26) ∨ (chB k = false ∧ 27 ≤ k) := by
    simp only [chB, decide_eq_true_eq, decide_eq_false_iff_not]
    omega
  rcases hcase with ⟨hv, a⟩ | ⟨hv, a, b⟩ | ⟨hv, a, b⟩ | ⟨hv, a, b⟩ | ⟨hv, a⟩ | ⟨hv, a⟩ | ⟨hv, a⟩
  · have HV := Lib.hid hv
    clear hv
    have h26 : (k == 26) = false := by simp; omega
    go_enter Tryd.func14, Tryd.ntmps14
    go_wp2_with fail
    go_ret
    exact ⟨by rw [HV.out]; rfl, rfl⟩
  · have HV := Lib.hid hv
    clear hv
    have h26 : (k == 26) = false := by simp; omega
    go_enter Tryd.func14, Tryd.ntmps14
    go_wp2_with fail
    go_ret
    exact ⟨by rw [HV.out]; rfl, rfl⟩
  · have HV := Lib.hid hv
    clear hv
    have h26 : (k == 26) = false := by simp; omega
    have a2 : 1 ≤ k := by omega
    have a3 : 15 < k := by omega
    go_enter Tryd.func14, Tryd.ntmps14
    go_wp2_with fail
    go_ret
    exact ⟨by rw [HV.out]; (first | rfl | exact congrArg Ending.returned (congrArg Value.bool (by simp; omega))), rfl⟩
  · have HV := Lib.hid hv
    clear hv
    have h26 : (k == 26) = false := by simp; omega
    have a2 : 1 ≤ k := by omega
    have a3 : 15 < k := by omega
    go_enter Tryd.func14, Tryd.ntmps14
    go_wp2_with fail
    go_ret
    exact ⟨by rw [HV.out]; (first | rfl | exact congrArg Ending.returned (congrArg Value.bool (by simp; omega))), rfl⟩
  · have HV := Lib.hid hv
    clear hv
    subst a
    go_enter Tryd.func14, Tryd.ntmps14
    go_wp2_with fail
    go_ret
    exact ⟨by rw [HV.out]; rfl, rfl⟩
  · have HV := Lib.hid hv
    clear hv
    subst a
    go_enter Tryd.func14, Tryd.ntmps14
    go_wp2_with fail
    go_ret
    exact ⟨by rw [HV.out]; rfl, rfl⟩
  · have HV := Lib.hid hv
    clear hv
    have h26 : (k == 26) = false := by simp; omega
    have a2 : 1 ≤ k := by omega
    have a3 : 15 < k := by omega
    have a4 : 20 ≤ k := by omega
    have a5 : 24 < k := by omega
    go_enter Tryd.func14, Tryd.ntmps14
    go_wp2_with fail
    go_ret
    exact ⟨by rw [HV.out]; (first | rfl | exact congrArg Ending.returned (congrArg Value.bool (by simp; omega))), rfl⟩
def needsL : List Int := [0, 1, 2, 4, 2, 2, 1, 4, 8, 8, 16, 16, 128, 128, 16, 16, 0, 0, 0, 64, 32, 32, 32, 32, 32, 0, 32, 0, 0]
def needsV (k : Int) : Int := if 0 ≤ k ∧ k < 29 then needsL.getD k.toNat 0 else 0
set_option maxRecDepth 100000 in
set_option maxHeartbeats 1000000 in
theorem needs_any (w : World) (k : Int) (h0 : -9223372036854775808 ≤ k) (h1 : k ≤ 9223372036854775807) : Calls Tryd.prog 25 #[.int .i64 k] w fun e w' => e = .returned (.int .i64 (needsV k)) ∧ Ext w w' := by
  rcases (by omega : k < 0 ∨ (0 ≤ k ∧ 29 ≤ k) ∨ (0 ≤ k ∧ k < 29)) with a | ⟨a, b⟩ | ⟨a, b⟩
  · have hv := Lib.hid (show needsV k = 0 by rw [needsV, if_neg (by omega)])
    go_enter Tryd.func25, Tryd.ntmps25
    go_wp2_with fail
    go_ret
    exact ⟨by rw [hv.out]; rfl, (Ext.refl _).alloc _⟩
  · have hv := Lib.hid (show needsV k = 0 by rw [needsV, if_neg (by omega)])
    go_enter Tryd.func25, Tryd.ntmps25
    go_wp2_with fail
    go_ret
    exact ⟨by rw [hv.out]; rfl, (Ext.refl _).alloc _⟩
  · obtain ⟨j, rfl⟩ : ∃ j : Nat, k = (j : Int) := ⟨k.toNat, by omega⟩
    have hj : j < 29 := by omega
    have hv := Lib.hid (show needsV (j : Int) = needsL.getD j 0 by rw [needsV, if_pos (by omega)]; rfl)
    generalize needsV (j : Int) = v at *
    have hc : (w.alloc (.cells (needsL.map (Value.int .i64)).toArray 3)).cell? ⟨w.heap.size, j, none⟩ = some (.int .i64 (needsL.getD j 0)) := cell_new w _ _ j (by
      simp only [List.getElem?_toArray]
      rw [List.getElem?_map, List.getElem?_eq_getElem (show j < needsL.length from hj)]
      simp [List.getD, show j < needsL.length from hj])
    have hc2 : (w.alloc (.cells #[.int .i64 0, .int .i64 1, .int .i64 2, .int .i64 4, .int .i64 2, .int .i64 2, .int .i64 1, .int .i64 4, .int .i64 8, .int .i64 8, .int .i64 16, .int .i64 16, .int .i64 128, .int .i64 128, .int .i64 16, .int .i64 16, .int .i64 0, .int .i64 0, .int .i64 0, .int .i64 64, .int .i64 32, .int .i64 32, .int .i64 32, .int .i64 32, .int .i64 32, .int .i64 0, .int .i64 32, .int .i64 0, .int .i64 0] 3)).cell? ⟨w.heap.size, j, none⟩ = some (.int .i64 (needsL.getD j 0)) := hc
    clear hc
    generalize needsL.getD j 0 = u at *
    go_enter Tryd.func25, Tryd.ntmps25
    go_upto_region 2 with fail
    have e1 : Ext w (w.alloc (.cells #[.int .i64 0, .int .i64 1, .int .i64 2, .int .i64 4, .int .i64 2, .int .i64 2, .int .i64 1, .int .i64 4, .int .i64 8, .int .i64 8, .int .i64 16, .int .i64 16, .int .i64 128, .int .i64 128, .int .i64 16, .int .i64 16, .int .i64 0, .int .i64 0, .int .i64 0, .int .i64 64, .int .i64 32, .int .i64 32, .int .i64 32, .int .i64 32, .int .i64 32, .int .i64 0, .int .i64 32, .int .i64 0, .int .i64 0] 3)) := (Ext.refl _).alloc _
    generalize hw1 : World.alloc w _ = w1 at *
    clear hw1
    go_wp2_with fail
    go_ret
    exact ⟨by rw [hv.out]; rfl, e1⟩
def chR (k : Int) : Bool := !(needsV k == 0) && !(k == 19)
theorem ch_eq (k : Int) : chB k = chR k := by
  by_cases h : 0 ≤ k ∧ k < 29
  · obtain ⟨j, rfl⟩ : ∃ j : Nat, k = (j : Int) := ⟨k.toNat, by omega⟩
    have hj : j < 29 := by omega
    have : ∀ j : Fin 29, chB ((j.1 : Nat) : Int) = chR ((j.1 : Nat) : Int) := by decide
    exact this ⟨j, hj⟩
  · rw [chR, needsV, if_neg h]
    simp only [chB, BEq.rfl, Bool.not_true, Bool.false_and, decide_eq_false_iff_not]
    omega
set_option maxRecDepth 100000 in
set_option maxHeartbeats 1000000 in
theorem rchanges_any (w : World) (k : Int) (h0 : -9223372036854775808 ≤ k) (h1 : k ≤ 9223372036854775807) : Calls Tryd.prog 15 #[.int .i64 k] w fun e w' => e = .returned (.bool (chB k)) ∧ Ext w w' := by
  have hv := Lib.hid (show chB k = (!(needsV k == 0) && !(k == 19)) from ch_eq k)
  have HN := Lib.hid (needs_any w k h0 h1)
  generalize needsV k = v at *
  cases hb : (v == 0)
  · have hb2 : (v != 0) = true := by simp [bne, hb]
    have HB := Lib.hid hb
    clear hb
    go_enter Tryd.func15, Tryd.ntmps15
    go_wp2_with fail
    refine HN.out.mono ?_
    rintro e w2 ⟨rfl, e2⟩
    go_wp2_with fail
    go_ret
    exact ⟨by rw [hv.out, HB.out]; rfl, e2⟩
  · have hb2 : (v != 0) = false := by simp [bne, hb]
    have HB := Lib.hid hb
    clear hb
    go_enter Tryd.func15, Tryd.ntmps15
    go_wp2_with fail
    refine HN.out.mono ?_
    rintro e w2 ⟨rfl, e2⟩
    go_wp2_with fail
    go_ret
    exact ⟨by rw [hv.out, HB.out]; rfl, e2⟩
set_option maxRecDepth 100000 in
set_option maxHeartbeats 1000000 in
theorem rkinds_any (w : World) : Calls Tryd.prog 11 #[] w fun e w' => e = .returned (.slice (some ⟨w.heap.size, 0, none⟩) 29 29) ∧ w' = w.alloc (.cells ((⟨#[]⟩ :: kindNames).map Value.string).toArray 9) := by
  go_enter Tryd.func11, Tryd.ntmps11
  go_wp2_with fail
  go_ret
  exact ⟨rfl, rfl⟩
theorem num29_any (w : World) (n : Int) : Calls Tryd.prog 12 #[.int .i64 n] w fun e w' => e = .returned (.int .i64 n) ∧ w = w' := by
  go_enter Tryd.func12, Tryd.ntmps12
  go_wp2
  go_ret
  exact ⟨rfl, rfl⟩
set_option maxRecDepth 100000 in
set_option maxHeartbeats 1000000 in
theorem alive29_any (w : World) (h : Tab w) : Calls Tryd.prog 16 #[] w fun e w' => e = .returned (.bool true) ∧ Ext w w' := by
  have HT := Lib.hid h
  clear h
  have h3 : kindB 3 = ⟨#[115, 110, 97, 112, 115, 104, 111, 116]⟩ := by decide
  have h0 : kindB 0 = ⟨#[]⟩ := by decide
  have hc3 : chB 3 = true := by decide
  have HK3 := Lib.hid (fun w1 (e : Ext w w1) => kind_any w1 (HT.out.ext e) 3 (by omega) (by omega))
  have HK0 := Lib.hid (fun w1 (e : Ext w w1) => kind_any w1 (HT.out.ext e) 0 (by omega) (by omega))
  have HC := Lib.hid (fun w1 => changes_any w1 3 (by omega) (by omega))
  rw [h3] at HK3
  rw [h0] at HK0
  rw [hc3] at HC
  clear h3 h0 hc3
  go_enter Tryd.func16, Tryd.ntmps16
  go_wp2_with fail
  refine (HK3.out _ (Ext.refl _)).mono ?_
  rintro e w1 ⟨rfl, e1⟩
  go_wp2_with fail
  refine (HK0.out _ e1).mono ?_
  rintro e w2 ⟨rfl, e2⟩
  go_wp2_with fail
  refine (HC.out _).mono ?_
  rintro e w3 ⟨rfl, rfl⟩
  go_wp2_with fail
  go_ret
  exact ⟨rfl, e1.trans e2⟩
end Go.Proofs.YtpbbjmfhcgcldaaDoor
