/- The texts Enc, PathL, Pth in one file. -/
import Derived.Test.YtckaneapjpiocaaGreatDoorM9
import Derived.Test.YtckaneapjpiocaaGreatDoorM6
import Derived.Lib.SplitLaws
import Derived.Test.YtckaneapjpiocaaGreatDoorM5
import Derived.Test.YtckaneapjpiocaaGreatDoorM2
import Derived.Deep.DeepCutAuto
/- A record's octets: record.Encode. -/
namespace Go.Proofs.YtckaneapjpiocaaGreatDoor
open Go.RowKit
set_option linter.unusedVariables false
set_option linter.unusedSimpArgs false

theorem num8_size (z : Int) : (num8 z).size = 8 := by
  show (puts z 8).toArray.size = 8
  rw [List.size_toArray, puts_length]
theorem pr_small (xs : List Prp) (h : prE xs = 0) : xs.length ≤ 8 ∧ ∀ x ∈ xs, x.name.size ≤ 16 ∧ x.value.size ≤ 32 := by
  have h8 : ¬ 8 < xs.length := fun h' => by rw [prE, if_pos h'] at h; cases h
  have hb : badUpto xs xs.length = false := by
    rw [prE, if_neg h8] at h
    cases hq : badUpto xs xs.length with
    | false => rfl
    | true => rw [hq] at h; cases h
  refine ⟨by omega, fun x hx => ?_⟩
  obtain ⟨k, hk, rfl⟩ := List.getElem_of_mem hx
  have hbk : badAt xs k = false := by
    cases hq : badAt xs k with
    | false => rfl
    | true => rw [badUpto_at xs k _ hk hq] at hb; cases hb
  simp only [badAt, Bool.or_eq_false_iff, Bool.not_eq_false'] at hbk
  have h1 := hbk.1.1
  have h2 := hbk.1.2
  simp only [nameB, valB, Bool.and_eq_true, decide_eq_true_eq] at h1 h2
  have e1 : nm xs k = xs[k].name := by simp [nm, hk]
  have e2 : vl xs k = xs[k].value := by simp [vl, hk]
  rw [e1] at h1
  rw [e2] at h2
  exact ⟨h1.1.2, h2.1⟩
theorem texts_small (x : Rec) (h : recE x = 0) : (recTexts x).length ≤ 19 ∧ ∀ s ∈ recTexts x, s.size ≤ 32 := by
  have hm : mayB x = true := by
    unfold recE at h
    split at h
    · cases h
    · split at h
      · assumption
      · cases h
  unfold mayB at hm
  unfold recTexts
  by_cases h1 : x.kind = 1
  · rw [if_pos h1] at hm ⊢
    simp only [Bool.and_eq_true, decide_eq_true_eq] at hm
    have hn : x.name.size ≤ 16 := by
      have := hm.1.1.1.1.1.1.1.1.1
      simp only [nameB, Bool.and_eq_true, decide_eq_true_eq] at this
      exact this.1.2
    obtain ⟨hp1, hp2⟩ := pr_small x.own hm.1.1.1.1.2
    refine ⟨by rw [List.length_append, ptext_length]; simp; omega, fun s hs => ?_⟩
    rcases List.mem_append.1 hs with hs | hs
    · simp only [List.mem_cons, List.not_mem_nil, or_false] at hs
      rcases hs with rfl | rfl | rfl
      · omega
      · rw [num8_size]; omega
      · rw [num8_size]; omega
    · simp only [ptext, List.mem_flatMap, List.mem_cons, List.not_mem_nil, or_false] at hs
      obtain ⟨p, hp, rfl | rfl⟩ := hs
      · have := (hp2 p hp).1; omega
      · exact (hp2 p hp).2
  · rw [if_neg h1] at hm ⊢
    by_cases h2 : x.kind = 2
    · rw [if_pos h2] at hm ⊢
      simp only [Bool.and_eq_true, decide_eq_true_eq] at hm
      have hd : x.data.size = 16 := hm.1.1.1.1.1.1.2
      refine ⟨by simp, fun s hs => ?_⟩
      simp only [List.mem_cons, List.not_mem_nil, or_false] at hs
      rcases hs with rfl | rfl
      · rw [num8_size]; omega
      · omega
    · rw [if_neg h2] at hm ⊢
      by_cases h3 : x.kind = 3
      · rw [if_pos h3] at hm ⊢
        refine ⟨by simp, fun s hs => ?_⟩
        simp only [List.mem_cons, List.not_mem_nil, or_false] at hs
        rcases hs with rfl | rfl <;> (rw [num8_size]; omega)
      · rw [if_neg h3] at hm ⊢
        refine ⟨by simp, fun s hs => ?_⟩
        simp only [List.mem_cons, List.not_mem_nil, or_false] at hs
        subst hs
        show (sumO (sumR x)).toArray.size ≤ 32
        rw [List.size_toArray, sumO_length]
        exact Nat.le_refl _
theorem texts_fit (x : Rec) (h : recE x = 0) : wE (recTexts x) = 0 := by
  obtain ⟨h1, h2⟩ := texts_small x h
  rw [wE, if_neg (by omega), if_neg]
  intro hq
  obtain ⟨s, hs, hl⟩ := List.any_eq_true.1 hq
  have := h2 s hs
  simp only [longB, decide_eq_true_eq] at hl
  omega
theorem kind_bd (x : Rec) (h : recE x = 0) : 1 ≤ x.kind ∧ x.kind ≤ 4 := by
  unfold recE at h
  split at h
  · cases h
  · omega
theorem flat_len (l : List ByteArray) (h : ∀ s ∈ l, s.size ≤ 32) : (flat l).length ≤ 2 + l.length * 35 := by
  unfold flat
  rw [List.length_append, puts_length]
  suffices (l.flatMap one).length ≤ l.length * 35 by omega
  induction l with
  | nil => simp
  | cons s l ih =>
    have h1 := h s (by simp)
    have h2 := ih (fun t ht => h t (by simp [ht]))
    have h3 : (one s).length ≤ 35 := by
      simp only [one, List.length_append, puts_length]
      have : s.data.toList.length = s.size := Array.length_toList
      omega
    simp only [List.flatMap_cons, List.length_append, List.length_cons]
    omega
def encB (x : Rec) : List UInt8 := if recE x = 0 then [UInt8.ofNat x.kind.toNat] ++ puts (wB (recTexts x)).length 2 ++ wB (recTexts x) else []
theorem encB_len (x : Rec) : (encB x).length ≤ 1000 := by
  unfold encB
  split
  · rename_i h
    obtain ⟨h1, h2⟩ := texts_small x h
    have h3 := flat_len (recTexts x) h2
    rw [wB, if_pos (texts_fit x h)]
    simp only [List.length_append, puts_length, List.length_cons, List.length_nil]
    omega
  · simp
/-- octets and an error are told -/
def EncOk (x : Rec) (w : World) (e : Ending) (w' : World) : Prop :=
  ∃ v, e = .returned (.tuple #[v, .int .i64 (recE x)]) ∧ w'.ownsRow w.heap.size 5 1 v (encB x).length (bytes (encB x)) ∧ Ext w w'
theorem sizeRec : (Tryz.prog.info? 46).map (·.size) = some 12 := by kernel_rfl


theorem kindO (k : Int) (h : 1 ≤ k ∧ k ≤ 4) : bytes [UInt8.ofNat k.toNat] = [.int .u8 (IntKind.u8.wrap k)] := by
  rcases (show k = 1 ∨ k = 2 ∨ k = 3 ∨ k = 4 by omega) with rfl | rfl | rfl | rfl <;> rfl
set_option maxRecDepth 100000 in
set_option maxHeartbeats 8000000 in
theorem encode0_any (w : World) (x : Rec) (hr : Rd w 0 w.heap.size x.oA (prps x.own)) (hx : x.wf) (hon : x.on ≤ 100000000) (hs : (sumR x).wf) (hE : recE x = 0) :
    Calls Tryz.prog 92 #[.agg x.cells.toArray] w (EncOk x w) := by
  have HCk := Lib.hid (fun W (hW : Ext w W) => check_any W x (Rd.at hr hW (Nat.le_refl _)) hx)
  have HTx := Lib.hid (fun W (hW : Ext w W) => texts_any W x (Rd.at hr hW (Nat.le_refl _)) hx hon hs)
  have HFit := Lib.hid (texts_fit x hE)
  have hk := kind_bd x hE
  have HEl := Lib.hid (encB_len x)
  have HSm := Lib.hid (texts_small x hE)
  have HB := Lib.hid (show encB x = [UInt8.ofNat x.kind.toNat] ++ puts (wB (recTexts x)).length 2 ++ wB (recTexts x) by rw [encB, if_pos hE])
  have HOut := Lib.hid (fun (e : Ending) (w' : World) (h : ∃ v, e = .returned (.tuple #[v, .int .i64 0]) ∧ w'.ownsRow w.heap.size 5 1 v (encB x).length (bytes (encB x)) ∧ Ext w w') => show EncOk x w e w' by
    obtain ⟨v, h1, h2⟩ := h
    exact ⟨v, by rw [hE]; exact h1, h2⟩)
  rw [hE] at HCk
  clear hr hx hs hE
  obtain ⟨B, hB⟩ : ∃ B, B = encB x := ⟨_, rfl⟩
  rw [← hB] at HEl HB HOut
  obtain ⟨tx, htx⟩ : ∃ tx, tx = recTexts x := ⟨_, rfl⟩
  rw [← htx] at HTx HFit HSm HB
  obtain ⟨OUT, hOUT⟩ : ∃ OUT : Ending → World → Prop, OUT = EncOk x w := ⟨_, rfl⟩
  rw [← hOUT] at HOut ⊢
  clear hB htx hOUT
  obtain ⟨kind, name, frm, guid, oA, on, oc, own, index, count, data, s0, s1, s2, s3⟩ := x
  simp only [Rec.cells] at HCk HTx ⊢
  dsimp only at hk HB hon
  have HKO := Lib.hid (kindO kind hk)
  obtain ⟨i0, hi0, hz0, hz1, hz2⟩ := info_parts info5
  obtain ⟨hk1, hk2⟩ := hk
  go_enter Tryz.func92, Tryz.ntmps92
  go_upto_region 1 with fail
  generalize hwH : World.alloc w _ = w1; have HH := Lib.hid (Heap.one hwH); clear hwH
  go_wp2_with (refine shl_load HH.out sizeRec (by kernel_rfl) rfl rfl rfl 0 rfl rfl ?_)
  refine (HCk.out w1 HH.out.ext).mono ?_
  rintro e w2 ⟨rfl, e2⟩
  have HH2 := Lib.hid (HH.out.later e2)
  clear HH e2
  have HH := HH2
  clear HH2
  go_wp2_with (refine shl_load HH.out sizeRec (by kernel_rfl) rfl rfl rfl 0 rfl rfl ?_)
  refine (HTx.out w2 HH.out.ext).mono ?_
  rintro e w3 ⟨v3, rfl, hown3, e3⟩
  obtain ⟨A3, c3, rfl, _, _, _⟩ := own_form hown3
  have HH3 := Lib.hid (HH.out.addRow e3 hown3)
  clear HH hown3 e3
  have hsm := HSm.out.1
  have HWr := Lib.hid (write_any w3 A3 tx.length c3 tx rfl (by omega) ((Rd.of_own (HH3.out.rowAt 0 rfl)).more (Nat.zero_le _) (Nat.le_refl _)))
  clear hsm
  go_wp2_with fail
  refine HWr.out.mono ?_
  rintro e w4 ⟨v4, rfl, hown4, e4⟩
  obtain ⟨A4, c4, rfl, _, _, _⟩ := own_form hown4
  have HH4 := Lib.hid (HH3.out.addRow e4 hown4)
  clear HH3 hown4 e4 HWr
  rw [HFit.out]
  have hlen : (wB tx).length ≤ 1000 := by have := HEl.out; rw [HB.out, List.length_append, List.length_append] at this; omega
  have HLt := Lib.hid (show B.length = 1 + 2 + (wB tx).length by rw [HB.out, List.length_append, List.length_append, puts_length]; rfl)
  generalize wB tx = bs at *
  obtain ⟨m, hm⟩ : ∃ m, m = bs.length := ⟨_, rfl⟩
  rw [← hm] at HH4 HB HLt hlen ⊢
  have HM := Lib.hid hm
  clear hm
  have hkb : kind % 256 = kind := by omega
  have HH := HH4
  clear HH4
  go_wp2_with fail
  have HL : Heap w [.box w.heap.size [.int .i64 kind, .string name, .int .i64 frm, .int .i64 guid, .slice oA on oc, .int .i64 index, .int .i64 count, .string data, .int .u64 s0, .int .u64 s1, .int .u64 s2, .int .u64 s3]] w4.drew := (HH.out.only 2 rfl).drew
  refine wp_region_held_drew (S := Heap w [.box w.heap.size [.int .i64 kind, .string name, .int .i64 frm, .int .i64 guid, .slice oA on oc, .int .i64 index, .int .i64 count, .string data, .int .u64 s0, .int .u64 s1, .int .u64 s2, .int .u64 s3]]) (by kernel_rfl) HL (fun hHeld => ?_)
  have HH0 := Lib.hid HH.out.drew
  clear HH HL
  generalize hwd : World.drew w4 = wd at *
  clear hwd
  refine tU 0 rfl (by kernel_rfl) (fun _ _ _ h => h) (by intro w hSw; (try dsimp only at hSw); go_simp <;> with_reducible rfl) (by assumption) ?_; (try simp only [Act.put, lyA, lyB, lyC])
  refine takeL 1 rfl (by kernel_rfl) (by kernel_rfl) (by kernel_rfl) (fun _ _ _ h => h) (by kernel_rfl) (fun wT hST => sh_run_load1 hST rfl rfl 0 rfl rfl (by kernel_rfl)) hHeld ?_; (try simp only [Act.put, lyA, lyB, lyC])
  refine tU 2 rfl (by kernel_rfl) (fun _ _ _ h => h) (by intro w hSw; (try dsimp only at hSw); go_simp <;> with_reducible rfl) (by assumption) ?_; (try simp only [Act.put, lyA, lyB, lyC])
  refine tU 4 rfl (by kernel_rfl) (fun _ _ _ h => h) (by intro w hSw; (try dsimp only at hSw); go_simp <;> with_reducible rfl) (by assumption) ?_; (try simp only [Act.put, lyA, lyB, lyC])
  refine tU 5 rfl (by kernel_rfl) (fun _ _ _ h => h) (by intro w hSw; (try dsimp only at hSw); go_simp <;> with_reducible rfl) (by assumption) ?_; (try simp only [Act.put, lyA, lyB, lyC])
  refine tU 7 rfl (by kernel_rfl) (fun _ _ _ h => h) (by intro w hSw; (try dsimp only at hSw); go_simp <;> with_reducible rfl) (by assumption) ?_; (try simp only [Act.put, lyA, lyB, lyC])
  clear hHeld
  refine twoH 3 6 rfl rfl (by kernel_rfl) (by kernel_rfl) (by kernel_rfl) (fun K hK => ?_) (fun K hK => ?_)
  · go_simp; generalize hwA : World.alloc _ _ = w5; have HH5 := Lib.hid ((HH0).out.allocRow hwA (n := 1) (size := 1) rfl (by simp [maxLen])); clear hwA HH0
    refine hK.out _ _ ((HH5).out.only 3 rfl) (fun hHeld => ?_); clear hK K; (try simp only [Act.put, lyA, lyB, lyC]); clear hHeld
    refine oneL 6 rfl (by kernel_rfl) (by kernel_rfl) (fun K hK => ?_)
    go_simp; refine (put_any (m : Int) _ 2 (by omega) rfl w5 (by omega) (by omega)).mono ?_; rintro e w6 ⟨vw6, rfl, hownw6, ew6⟩; obtain ⟨Aw6, cw6, rfl, _, _, _⟩ := own_form hownw6; have HH6 := Lib.hid ((HH5).out.addRow ew6 hownw6); clear HH5 hownw6 ew6; go_wp2_with fail
    refine hK.out _ _ ((HH6).out.only 4 rfl) (fun hHeld => ?_); clear hK K; (try simp only [Act.put, lyA, lyB, lyC]); clear hHeld
    refine oneL 8 rfl (by kernel_rfl) (by kernel_rfl) (fun K hK => ?_); go_simp; generalize hwA : World.alloc _ _ = w7; have HH7 := Lib.hid ((HH6).out.allocE hwA); clear hwA HH6; refine hK.out _ _ ((HH7).out.only 5 rfl) (fun hHeld => ?_); clear hK K; (try simp only [Act.put, lyA, lyB, lyC]); clear hHeld; refine oneL 9 rfl (by kernel_rfl) (by kernel_rfl) (fun K hK => ?_); go_simp; refine (join_any w7 _ 3 3 [⟨(some ⟨wd.heap.size, 0, none⟩), 1, 1, [UInt8.ofNat kind.toNat]⟩, ⟨Aw6, 2, cw6, puts (m : Int) 2⟩, ⟨A4, m, c4, bs⟩] rfl ((HH7.out.boxRd 0 rfl).more (Nat.zero_le _) (Nat.le_refl _)) (fun x hx => (by simp only [List.mem_cons, List.not_mem_nil, or_false] at hx; rcases hx with rfl | rfl | rfl; exact ⟨rfl, by rw [HKO.out]; exact (Rd.of_own (HH7.out.rowAt 2 rfl)).more (Nat.zero_le _) (Nat.le_refl _)⟩; exact ⟨(puts_length _ _).symm, (Rd.of_own (HH7.out.rowAt 1 rfl)).more (Nat.zero_le _) (Nat.le_refl _)⟩; exact ⟨HM.out, (Rd.of_own (HH7.out.rowAt 3 rfl)).more (Nat.zero_le _) (Nat.le_refl _)⟩)) (by omega) (by simp only [catL, List.flatMap_cons, List.flatMap_nil, List.length_append, List.length_cons, List.length_nil, puts_length, ← HM.out]; omega)).mono ?_; rintro e w8 ⟨v8, rfl, hown8, e8⟩; have HO := Lib.hid (own_lower hown8 HH7.out.ext.size); have HX := Lib.hid (HH7.out.ext.trans e8); have HS8 := Lib.hid (HH7.out.later e8); clear hown8 e8; go_wp2_with fail; refine hK.out _ _ ((HS8).out.only 5 rfl) (fun hHeld => ?_); clear hK K; (try simp only [Act.put, lyA, lyB, lyC]); refine tU 10 rfl (by kernel_rfl) (fun _ _ _ h => h) (by intro w hSw; (try dsimp only at hSw); go_simp <;> with_reducible rfl) (by assumption) ?_; (try simp only [Act.put, lyA, lyB, lyC]); refine tU 11 rfl (by kernel_rfl) (fun _ _ _ h => h) (by intro w hSw; (try dsimp only at hSw); go_simp <;> with_reducible rfl) (by assumption) ?_; (try simp only [Act.put, lyA, lyB, lyC]); refine wpAnyH_done (by kernel_rfl) ?_ _; go_wp2_with fail; refine HOut.out _ _ ⟨_, rfl, ?_, HX.out⟩; have h9 := HO.out; have hc : catL [⟨(some ⟨wd.heap.size, 0, none⟩), 1, 1, [UInt8.ofNat kind.toNat]⟩, ⟨Aw6, 2, cw6, puts (m : Int) 2⟩, ⟨A4, m, c4, bs⟩] = B := (by rw [HB.out]; simp [catL, List.append_assoc]); rw [hc] at h9; exact h9
  · go_simp; refine (put_any (m : Int) _ 2 (by omega) rfl wd (by omega) (by omega)).mono ?_; rintro e w5 ⟨vw5, rfl, hownw5, ew5⟩; obtain ⟨Aw5, cw5, rfl, _, _, _⟩ := own_form hownw5; have HH5 := Lib.hid ((HH0).out.addRow ew5 hownw5); clear HH0 hownw5 ew5; go_wp2_with fail
    refine hK.out _ _ ((HH5).out.only 3 rfl) (fun hHeld => ?_); clear hK K; (try simp only [Act.put, lyA, lyB, lyC]); clear hHeld
    refine oneL 3 rfl (by kernel_rfl) (by kernel_rfl) (fun K hK => ?_)
    go_simp; generalize hwA : World.alloc _ _ = w6; have HH6 := Lib.hid ((HH5).out.allocRow hwA (n := 1) (size := 1) rfl (by simp [maxLen])); clear hwA HH5
    refine hK.out _ _ ((HH6).out.only 4 rfl) (fun hHeld => ?_); clear hK K; (try simp only [Act.put, lyA, lyB, lyC]); clear hHeld
    refine oneL 8 rfl (by kernel_rfl) (by kernel_rfl) (fun K hK => ?_); go_simp; generalize hwA : World.alloc _ _ = w7; have HH7 := Lib.hid ((HH6).out.allocE hwA); clear hwA HH6; refine hK.out _ _ ((HH7).out.only 5 rfl) (fun hHeld => ?_); clear hK K; (try simp only [Act.put, lyA, lyB, lyC]); clear hHeld; refine oneL 9 rfl (by kernel_rfl) (by kernel_rfl) (fun K hK => ?_); go_simp; refine (join_any w7 _ 3 3 [⟨(some ⟨w5.heap.size, 0, none⟩), 1, 1, [UInt8.ofNat kind.toNat]⟩, ⟨Aw5, 2, cw5, puts (m : Int) 2⟩, ⟨A4, m, c4, bs⟩] rfl ((HH7.out.boxRd 0 rfl).more (Nat.zero_le _) (Nat.le_refl _)) (fun x hx => (by simp only [List.mem_cons, List.not_mem_nil, or_false] at hx; rcases hx with rfl | rfl | rfl; exact ⟨rfl, by rw [HKO.out]; exact (Rd.of_own (HH7.out.rowAt 1 rfl)).more (Nat.zero_le _) (Nat.le_refl _)⟩; exact ⟨(puts_length _ _).symm, (Rd.of_own (HH7.out.rowAt 2 rfl)).more (Nat.zero_le _) (Nat.le_refl _)⟩; exact ⟨HM.out, (Rd.of_own (HH7.out.rowAt 3 rfl)).more (Nat.zero_le _) (Nat.le_refl _)⟩)) (by omega) (by simp only [catL, List.flatMap_cons, List.flatMap_nil, List.length_append, List.length_cons, List.length_nil, puts_length, ← HM.out]; omega)).mono ?_; rintro e w8 ⟨v8, rfl, hown8, e8⟩; have HO := Lib.hid (own_lower hown8 HH7.out.ext.size); have HX := Lib.hid (HH7.out.ext.trans e8); have HS8 := Lib.hid (HH7.out.later e8); clear hown8 e8; go_wp2_with fail; refine hK.out _ _ ((HS8).out.only 5 rfl) (fun hHeld => ?_); clear hK K; (try simp only [Act.put, lyA, lyB, lyC]); refine tU 10 rfl (by kernel_rfl) (fun _ _ _ h => h) (by intro w hSw; (try dsimp only at hSw); go_simp <;> with_reducible rfl) (by assumption) ?_; (try simp only [Act.put, lyA, lyB, lyC]); refine tU 11 rfl (by kernel_rfl) (fun _ _ _ h => h) (by intro w hSw; (try dsimp only at hSw); go_simp <;> with_reducible rfl) (by assumption) ?_; (try simp only [Act.put, lyA, lyB, lyC]); refine wpAnyH_done (by kernel_rfl) ?_ _; go_wp2_with fail; refine HOut.out _ _ ⟨_, rfl, ?_, HX.out⟩; have h9 := HO.out; have hc : catL [⟨(some ⟨w5.heap.size, 0, none⟩), 1, 1, [UInt8.ofNat kind.toNat]⟩, ⟨Aw5, 2, cw5, puts (m : Int) 2⟩, ⟨A4, m, c4, bs⟩] = B := (by rw [HB.out]; simp [catL, List.append_assoc]); rw [hc] at h9; exact h9
set_option maxRecDepth 100000 in
set_option maxHeartbeats 8000000 in
theorem encode1_any (w : World) (x : Rec) (hr : Rd w 0 w.heap.size x.oA (prps x.own)) (hx : x.wf) (hE : recE x ≠ 0) :
    Calls Tryz.prog 92 #[.agg x.cells.toArray] w (EncOk x w) := by
  have HCk := Lib.hid (fun W (hW : Ext w W) => check_any W x (Rd.at hr hW (Nat.le_refl _)) hx)
  have HOut := Lib.hid (fun (e : Ending) (w' : World) (h : e = .returned (.tuple #[.slice none 0 0, .int .i64 (recE x)]) ∧ Ext w w') => show EncOk x w e w' from
    ⟨_, h.1, by rw [encB, if_neg hE]; exact World.ownsRow_nil _ _ _ _, h.2⟩)
  have d1 : (recE x != 0) = true := by simpa using hE
  clear hr hx hE
  generalize recE x = E at *
  obtain ⟨OUT, hOUT⟩ : ∃ OUT : Ending → World → Prop, OUT = EncOk x w := ⟨_, rfl⟩
  rw [← hOUT] at HOut ⊢
  clear hOUT
  obtain ⟨kind, name, frm, guid, oA, on, oc, own, index, count, data, s0, s1, s2, s3⟩ := x
  simp only [Rec.cells] at HCk ⊢
  go_enter Tryz.func92, Tryz.ntmps92
  go_upto_region 1 with fail
  generalize hwH : World.alloc w _ = w1; have HH := Lib.hid (Heap.one hwH); clear hwH
  go_wp2_with (refine shl_load HH.out sizeRec (by kernel_rfl) rfl rfl rfl 0 rfl rfl ?_)
  refine (HCk.out w1 HH.out.ext).mono ?_
  rintro e w2 ⟨rfl, e2⟩
  go_wp2_with fail
  exact HOut.out _ _ ⟨rfl, HH.out.ext.trans e2⟩
theorem encode_any (w : World) (x : Rec) (hr : Rd w 0 w.heap.size x.oA (prps x.own)) (hx : x.wf) (hon : x.on ≤ 100000000) (hs : (sumR x).wf) :
    Calls Tryz.prog 92 #[.agg x.cells.toArray] w (EncOk x w) := by
  by_cases hE : recE x = 0
  · exact encode0_any w x hr hx hon hs hE
  · exact encode1_any w x hr hx hE
end Go.Proofs.YtckaneapjpiocaaGreatDoor
/- A path's parts: plain laws. -/
namespace Go.Proofs.YtckaneapjpiocaaGreatDoor
open Go.Lib (index count splitK)

/-- what stands between the octets 47 -/
def partsGo : List UInt8 → List UInt8 → List (List UInt8)
  | cur, [] => [cur]
  | cur, c :: l => if c = 47 then cur :: partsGo [] l else partsGo (cur ++ [c]) l
def parts (l : List UInt8) : List (List UInt8) := partsGo [] l
theorem index_cons (b : UInt8) (l : List UInt8) : index (b :: l) [47] = if b = 47 then 0 else if index l [47] == -1 then -1 else index l [47] + 1 := by
  rw [index]
  by_cases h : b = 47
  · subst h; simp
  · have : ([47] : List UInt8).isPrefixOf (b :: l) = false := by
      simp [List.isPrefixOf, Ne.symm h]
    rw [this, if_neg h]
    simp
theorem partsGo_at (s : List UInt8) : ∀ cur, partsGo cur s = if index s [47] == -1 then [cur ++ s] else (cur ++ s.take (index s [47]).toNat) :: partsGo [] (s.drop ((index s [47]).toNat + 1)) := by
  induction s with
  | nil => intro cur; simp [partsGo, index]
  | cons b l ih =>
    intro cur
    rw [index_cons]
    by_cases h : b = 47
    · subst h; simp [partsGo]
    · rw [partsGo, if_neg h, if_neg h, ih]
      have hge := Go.Lib.index_ge l [47]
      by_cases h2 : index l [47] == -1
      · rw [if_pos h2, if_pos h2, if_pos (by rfl)]
        simp
      · rw [if_neg h2, if_neg h2]
        have h3 : index l [47] ≠ -1 := by simpa using h2
        have h4 : ((index l [47] + 1) == -1) = false := by simp; omega
        rw [h4, if_neg (by decide), show (index l [47] + 1).toNat = (index l [47]).toNat + 1 by omega]
        simp
theorem splitK_parts : ∀ (k : Nat) (s : List UInt8), count s [47] = k → splitK [47] 0 k s = parts s
  | 0, s, h => by
    have hi : index s [47] = -1 := by
      have hge := Go.Lib.index_ge s [47]
      refine Decidable.byContradiction fun hn => ?_
      have := Go.Lib.count_hit (s := s) (sub := [47]) (i := (index s [47]).toNat) (by simp) (by omega)
      omega
    rw [parts, partsGo_at, hi]
    rfl
  | k + 1, s, h => by
    have hge := Go.Lib.index_ge s [47]
    have hn : ¬ (index s [47] == -1) = true := fun e => by
      have := Go.Lib.count_miss (s := s) (sub := [47]) (by simpa using e)
      omega
    have hc := Go.Lib.count_hit (s := s) (sub := [47]) (i := (index s [47]).toNat) (by simp) (by have : index s [47] ≠ -1 := (by simpa using hn); omega)
    have hk : count (s.drop ((index s [47]).toNat + 1)) [47] = k := by simp only [List.length_singleton] at hc; omega
    have ih := splitK_parts k _ hk
    rw [splitK, if_neg hn, parts, partsGo_at, if_neg hn, List.nil_append, Nat.add_zero]
    congr 1
theorem partsGo_len (s : List UInt8) : ∀ cur, (partsGo cur s).length = s.count 47 + 1 := by
  induction s with
  | nil => intro cur; rfl
  | cons b l ih =>
    intro cur
    rw [partsGo]
    by_cases h : b = 47
    · subst h; rw [if_pos rfl, List.length_cons, ih]; simp
    · rw [if_neg h, ih, List.count_cons_of_ne h]
/-- may a text be a path? -/
def pathB (s : ByteArray) : Bool := decide (s.size = 0) || (decide ((parts s.data.toList).length ≤ 4) && (parts s.data.toList).all fun l => nameB ⟨l.toArray⟩)
end Go.Proofs.YtckaneapjpiocaaGreatDoor
/- names.Path; the reference's Parts and Path. Of strings.Split the shelf's contract is asked: a text shorter than 4294967281 octets. -/
namespace Go.Proofs.YtckaneapjpiocaaGreatDoor
open Go.RowKit
set_option linter.unusedVariables false
set_option linter.unusedSimpArgs false

/-- the library's variable MaxLen holds some integer -/
def MaxV (w : World) : Prop := ∃ m : Int, w.cell? ⟨0, 0, none⟩ = some (.int .i64 m)
theorem MaxV.ext {w w' : World} (h : MaxV w) (e : Ext w w') : MaxV w' := by
  obtain ⟨m, hm⟩ := h
  exact ⟨m, (Below.cell e (World.block_lt_of_cell? w _ hm)).trans hm⟩
theorem parts_small (s : List UInt8) : ∀ cur, ∀ p ∈ partsGo cur s, p.length ≤ cur.length + s.length := by
  induction s with
  | nil => intro cur p hp; simp only [partsGo, List.mem_singleton] at hp; subst hp; simp
  | cons b l ih =>
    intro cur p hp
    rw [partsGo] at hp
    by_cases h : b = 47
    · rw [if_pos h, List.mem_cons] at hp
      rcases hp with rfl | hp
      · simp
      · have := ih [] p hp
        simp at this ⊢
        omega
    · rw [if_neg h] at hp
      have := ih _ p hp
      simp at this ⊢
      omega
theorem of_list (s : ByteArray) : (⟨s.data.toList.toArray⟩ : ByteArray) = s := rfl
theorem split_any (s : ByteArray) (w : World) (hM : MaxV w) (hs : s.size < 4294967281) (sep : ByteArray) (hsep : sep = ⟨#[47]⟩) :
    Calls Tryz.prog 179 #[.string s, .string sep] w fun e w' => ∃ ps : List ByteArray, ps.map (·.data.toList) = parts s.data.toList ∧ e = .returned (.slice (some ⟨w.heap.size, 0, none⟩) ps.length ps.length) ∧ w' = w.alloc (.cells (ps.map Value.string).toArray 9) := by
  subst hsep
  obtain ⟨m, hm⟩ := hM
  refine (Tryz.strings_Split s ⟨#[47]⟩ m w hs hm (by decide)).mono ?_
  rintro e w' ⟨rfl, rfl⟩
  have h1 := Lib.splitB_all ⟨#[47]⟩ (by decide) 0 _ s rfl
  exact ⟨_, (Lib.splitB_data ⟨#[47]⟩ 0 _ s).trans (splitK_parts _ _ rfl), by rw [h1], rfl⟩
def noName (s : ByteArray) : Bool := !nameB s
theorem noName_any (s : ByteArray) (w : World) (hm : s.size ≤ 9223372036854775807) : Calls Tryz.prog 180 #[.string s] w fun e w' => e = .returned (.bool (noName s)) ∧ Ext w w' := by
  have hv := Lib.hid (show noName s = !nameB s from rfl)
  have H := Lib.hid (name_any s w hm)
  generalize nameB s = b at *
  go_enter Tryz.func180, Tryz.ntmps180
  go_wp2_with fail
  refine H.out.mono ?_
  rintro e w2 ⟨rfl, e2⟩
  go_wp2_with fail
  go_ret
  exact ⟨by rw [hv.out]; rfl, e2⟩
/-- the first long one, or -1 -/
def IdxN (l : List ByteArray) (w : World) (e : Ending) (w' : World) : Prop :=
  ∃ r : Int, e = .returned (.int .i64 r) ∧ l.any noName = decide (0 ≤ r) ∧ -1 ≤ r ∧ Ext w w'
set_option maxRecDepth 100000 in
set_option maxHeartbeats 400000 in
theorem idxn_any (w : World) (A : Option Addr) (n c lo hi : Nat) (l : List ByteArray) (hn : n = l.length) (hm : n ≤ 9223372036854775807) (hr : Rd w lo hi A (l.map Value.string)) (hh : hi ≤ w.heap.size) (hsz : ∀ s ∈ l, s.size ≤ 9223372036854775807) :
    Calls Tryz.prog 192 #[.slice A n c, .func (.func 180) #[] #[]] w (IdxN l w) := by
  have Hn := Lib.hid hn
  have HSz := Lib.hid hsz
  clear hn hsz
  go_enter Tryz.func192, Tryz.ntmps192
  go_wp2_with fail
  go_loopw [8] (fun i wr => ∃ k : Nat, k ≤ n ∧ i = .int .i64 k ∧ (l.take k).any noName = false ∧ Ext w wr) (fun i _ => n - (intOf i).toNat)
  case atStart => exact ⟨0, Nat.zero_le _, rfl, rfl, Ext.refl _⟩
  case round =>
    obtain ⟨k, hk, rfl, hno, e1⟩ := hrel
    have HK := Lib.hid hno
    clear hno
    by_cases hlt : k < n
    · obtain ⟨b1, o1, rfl, _, _, f0⟩ := rd_str (hr.ext e1 hh) (k := k) (by rw [← Hn.out]; omega)
      have hl : k < l.length := by rw [← Hn.out]; omega
      obtain ⟨y, hy⟩ : ∃ y, y = l[k]'hl := ⟨_, rfl⟩
      rw [← hy] at f0
      have HY := Lib.hid hy
      clear hy
      go_wp2_with fail
      refine (noName_any y _ (by have := HSz.out y (by rw [HY.out]; exact List.getElem_mem _); exact this)).mono ?_
      rintro e w2 ⟨rfl, e2⟩
      cases ho : noName y
      · go_wp2_with fail
        go_roundw
        case rel =>
          refine ⟨k + 1, by omega, by go_num, ?_, by (repeat (first | exact Below.refl _ _ | exact Ext.refl _ | assumption | refine Below.drew ?_ | refine below_drewN ?_ _ | refine below_alloc ?_ (by first | exact Nat.le_refl _ | assumption | (simp; done) | omega | (simp; omega)) _ | refine below_ext ?_ (by assumption) (by first | exact Nat.le_refl _ | assumption | (simp; done) | omega | (simp; omega)) | refine Ext.drew ?_ | refine Ext.drewN ?_ _ | refine Ext.alloc ?_ _ | refine Ext.setCell ?_ (by first | assumption | (simp; done) | (simp; omega)) _ | refine Below.setCell ?_ (by first | assumption | (simp; done) | (simp; omega)) _ | refine Ext.trans ?_ (by assumption)))⟩
          rw [List.take_succ_eq_append_getElem hl, List.any_append, HK.out, ← HY.out]
          simp [ho]
        case measure => simp [intOf]; omega
      · go_wp2_with fail
        go_ret
        refine ⟨k, rfl, ?_, by omega, by (repeat (first | exact Below.refl _ _ | exact Ext.refl _ | assumption | refine Below.drew ?_ | refine below_drewN ?_ _ | refine below_alloc ?_ (by first | exact Nat.le_refl _ | assumption | (simp; done) | omega | (simp; omega)) _ | refine below_ext ?_ (by assumption) (by first | exact Nat.le_refl _ | assumption | (simp; done) | omega | (simp; omega)) | refine Ext.drew ?_ | refine Ext.drewN ?_ _ | refine Ext.alloc ?_ _ | refine Ext.setCell ?_ (by first | assumption | (simp; done) | (simp; omega)) _ | refine Below.setCell ?_ (by first | assumption | (simp; done) | (simp; omega)) _ | refine Ext.trans ?_ (by assumption)))⟩
        have h1 : l.any noName = true := List.any_eq_true.2 ⟨y, by rw [HY.out]; exact List.getElem_mem _, ho⟩
        rw [h1]
        simp
    · go_wp2_with fail
      go_ret
      obtain rfl : k = n := by omega
      have h1 := HK.out
      rw [List.take_of_length_le (by rw [← Hn.out]; exact Nat.le_refl _)] at h1
      exact ⟨-1, rfl, by rw [h1]; rfl, by omega, e1⟩

set_option maxRecDepth 100000 in
set_option maxHeartbeats 400000 in
theorem containsn_any (w : World) (A : Option Addr) (n c lo hi : Nat) (l : List ByteArray) (hn : n = l.length) (hm : n ≤ 9223372036854775807) (hr : Rd w lo hi A (l.map Value.string)) (hh : hi ≤ w.heap.size) (hsz : ∀ s ∈ l, s.size ≤ 9223372036854775807) :
    Calls Tryz.prog 150 #[.slice A n c, .func (.func 180) #[] #[]] w fun e w' => e = .returned (.bool (l.any noName)) ∧ Ext w w' := by
  have Hn := Lib.hid hn
  have HSz := Lib.hid hsz
  clear hn hsz
  go_enter Tryz.func150, Tryz.ntmps150
  go_wp2_with fail
  refine (idxn_any w A n c lo hi l Hn.out hm hr hh HSz.out).mono ?_
  rintro e w2 ⟨r, rfl, hany, hr1, e2⟩
  have HA := Lib.hid hany
  clear hany
  go_wp2_with fail
  go_ret
  exact ⟨by rw [HA.out]; rfl, e2⟩


theorem pathB_of (s : ByteArray) (h : 0 < s.size) (ps : List ByteArray) (hp : ps.map (·.data.toList) = parts s.data.toList) : pathB s = (decide (ps.length ≤ 4) && !(ps.any noName)) := by
  have h1 : decide (s.size = 0) = false := decide_eq_false (by omega)
  have h2 : ps.length = (parts s.data.toList).length := by rw [← hp, List.length_map]
  have h3 : ∀ qs : List ByteArray, (qs.map (·.data.toList)).all (fun l => nameB ⟨l.toArray⟩) = !(qs.any noName) := by
    intro qs
    induction qs with
    | nil => rfl
    | cons p qs ih =>
      rw [List.map_cons, List.all_cons, List.any_cons, ih, of_list, Bool.not_or, noName, Bool.not_not]
  rw [pathB, h1, ← hp, h3, List.length_map]
  rfl
theorem parts_fit (s : ByteArray) (hs : s.size ≤ 9223372036854775807) (ps : List ByteArray) (hp : ps.map (·.data.toList) = parts s.data.toList) : ∀ p ∈ ps, p.size ≤ 9223372036854775807 := by
  intro p hm
  have := parts_small s.data.toList [] p.data.toList (by rw [show partsGo [] s.data.toList = ps.map (·.data.toList) from hp.symm]; exact List.mem_map_of_mem hm)
  rw [len_data, len_data] at this
  simp at this
  omega
theorem parts_len (s : ByteArray) (ps : List ByteArray) (hp : ps.map (·.data.toList) = parts s.data.toList) : ps.length ≤ s.size + 1 := by
  have h1 : ps.length = (parts s.data.toList).length := by rw [← hp, List.length_map]
  have h2 := partsGo_len s.data.toList []
  have h3 : s.data.toList.count 47 ≤ s.data.toList.length := List.count_le_length
  rw [len_data] at h3
  have h4 : parts s.data.toList = partsGo [] s.data.toList := rfl
  rw [h4] at h1
  omega
set_option maxRecDepth 100000 in
set_option maxHeartbeats 1000000 in
theorem path_any (s : ByteArray) (w : World) (hM : MaxV w) (hs : s.size < 4294967281) : Calls Tryz.prog 138 #[.string s] w fun e w' => e = .returned (.bool (pathB s)) ∧ Ext w w' := by
  by_cases h0 : s.size = 0
  · obtain rfl := empty_of s h0
    have hv := Lib.hid (show pathB ⟨#[]⟩ = true from rfl)
    go_enter Tryz.func138, Tryz.ntmps138
    go_wp2_with fail
    go_ret
    exact ⟨by rw [hv.out]; rfl, Ext.refl _⟩
  · have HS := Lib.hid (split_any s w hM hs _ rfl)
    have b0 : s.toList.isEmpty = false := by
      rw [ByteArray.toList_eq, List.isEmpty_eq_false_iff]
      intro e
      have := len_data s
      rw [e] at this
      exact h0 this.symm
    have HP := Lib.hid (fun ps hp => pathB_of s (by omega) ps hp)
    have HF := Lib.hid (parts_fit s (by omega))
    have HL := Lib.hid (parts_len s)
    have HB := Lib.hid hs
    clear hs
    go_enter Tryz.func138, Tryz.ntmps138
    go_wp2_with fail
    refine HS.out.mono ?_
    rintro e w2 ⟨ps, hp, rfl, hw2⟩
    have hv := Lib.hid (HP.out ps hp)
    have hf := Lib.hid (HF.out ps hp)
    have hl := Lib.hid (HL.out ps hp)
    clear hp
    have hr := rd_new w (ps.map Value.string).toArray 9
    rw [← hw2] at hr
    have e2 : Ext w w2 := by rw [hw2]; (repeat (first | exact Below.refl _ _ | exact Ext.refl _ | assumption | refine Below.drew ?_ | refine below_drewN ?_ _ | refine below_alloc ?_ (by first | exact Nat.le_refl _ | assumption | (simp; done) | omega | (simp; omega)) _ | refine below_ext ?_ (by assumption) (by first | exact Nat.le_refl _ | assumption | (simp; done) | omega | (simp; omega)) | refine Ext.drew ?_ | refine Ext.drewN ?_ _ | refine Ext.alloc ?_ _ | refine Ext.setCell ?_ (by first | assumption | (simp; done) | (simp; omega)) _ | refine Below.setCell ?_ (by first | assumption | (simp; done) | (simp; omega)) _ | refine Ext.trans ?_ (by assumption)))
    have hz : w2.heap.size = w.heap.size + 1 := by rw [hw2]; simp
    have HR := Lib.hid (show Rd w2 w.heap.size w2.heap.size (some ⟨w.heap.size, 0, none⟩) (ps.map Value.string) by rw [hz]; exact hr)
    have HZ := Lib.hid hz
    clear hw2 hr hz
    by_cases h4 : ps.length ≤ 4
    · have hd : decide ((ps.length : Int) ≤ 4) = true := by simp; omega
      have hq : pathB s = !(ps.any noName) := by rw [hv.out, decide_eq_true h4]; rfl
      have hv := Lib.hid hq
      clear hq
      go_wp2_with fail
      refine (containsn_any _ _ ps.length _ w.heap.size w2.heap.size ps rfl (by have := hl.out; have := HB.out; omega) HR.out (Nat.le_refl _) hf.out).mono ?_
      rintro e wa ⟨rfl, ea⟩
      generalize ps.any noName = X at *
      go_wp2_with fail
      go_ret
      exact ⟨by rw [hv.out]; rfl, by (repeat (first | exact Below.refl _ _ | exact Ext.refl _ | assumption | refine Below.drew ?_ | refine below_drewN ?_ _ | refine below_alloc ?_ (by first | exact Nat.le_refl _ | assumption | (simp; done) | omega | (simp; omega)) _ | refine below_ext ?_ (by assumption) (by first | exact Nat.le_refl _ | assumption | (simp; done) | omega | (simp; omega)) | refine Ext.drew ?_ | refine Ext.drewN ?_ _ | refine Ext.alloc ?_ _ | refine Ext.setCell ?_ (by first | assumption | (simp; done) | (simp; omega)) _ | refine Below.setCell ?_ (by first | assumption | (simp; done) | (simp; omega)) _ | refine Ext.trans ?_ (by assumption)))⟩
    · have hd : decide ((ps.length : Int) ≤ 4) = false := by simp; omega
      have hq : pathB s = false := by rw [hv.out, decide_eq_false h4]; rfl
      have hv := Lib.hid hq
      clear hq
      go_wp2_with fail
      go_ret
      exact ⟨by rw [hv.out]; rfl, by (repeat (first | exact Below.refl _ _ | exact Ext.refl _ | assumption | refine Below.drew ?_ | refine below_drewN ?_ _ | refine below_alloc ?_ (by first | exact Nat.le_refl _ | assumption | (simp; done) | omega | (simp; omega)) _ | refine below_ext ?_ (by assumption) (by first | exact Nat.le_refl _ | assumption | (simp; done) | omega | (simp; omega)) | refine Ext.drew ?_ | refine Ext.drewN ?_ _ | refine Ext.alloc ?_ _ | refine Ext.setCell ?_ (by first | assumption | (simp; done) | (simp; omega)) _ | refine Below.setCell ?_ (by first | assumption | (simp; done) | (simp; omega)) _ | refine Ext.trans ?_ (by assumption)))⟩
end Go.Proofs.YtckaneapjpiocaaGreatDoor
