/- The texts Enc in one file. -/
import Derived.Test.YtmecjjmlccdppaaGreatDoorM9
/- A record's octets: record.Encode. -/
namespace Go.Proofs.YtmecjjmlccdppaaGreatDoor
open Go.RowKit
set_option linter.unusedVariables false
set_option linter.unusedSimpArgs false

theorem num8_size (z : Int) : (num8 z).size = 8 := by
  show (puts z 8).toArray.size = 8
  rw [List.size_toArray, puts_length]
theorem pr_small (xs : List Prp) (h : prE xs = 0) : xs.length ≤ 8 ∧ ∀ x ∈ xs, x.name.size ≤ 16 ∧ x.value.size ≤ 32 := by
  have h8 : ¬ 8 < xs.length := fun h' => by rw [prE, if_pos h'] at h; cases h
  have hb : badUpto xs xs.length = false := by
    rw [prE, if_neg h8] at h
    cases hq : badUpto xs xs.length with
    | false => rfl
    | true => rw [hq] at h; cases h
  refine ⟨by omega, fun x hx => ?_⟩
  obtain ⟨k, hk, rfl⟩ := List.getElem_of_mem hx
  have hbk : badAt xs k = false := by
    cases hq : badAt xs k with
    | false => rfl
    | true => rw [badUpto_at xs k _ hk hq] at hb; cases hb
  simp only [badAt, Bool.or_eq_false_iff, Bool.not_eq_false'] at hbk
  have h1 := hbk.1.1
  have h2 := hbk.1.2
  simp only [nameB, valB, Bool.and_eq_true, decide_eq_true_eq] at h1 h2
  have e1 : nm xs k = xs[k].name := by simp [nm, hk]
  have e2 : vl xs k = xs[k].value := by simp [vl, hk]
  rw [e1] at h1
  rw [e2] at h2
  exact ⟨h1.1.2, h2.1⟩
theorem texts_small (x : Rec) (h : recE x = 0) : (recTexts x).length ≤ 19 ∧ ∀ s ∈ recTexts x, s.size ≤ 32 := by
  have hm : mayB x = true := by
    unfold recE at h
    split at h
    · cases h
    · split at h
      · assumption
      · cases h
  unfold mayB at hm
  unfold recTexts
  by_cases h1 : x.kind = 1
  · rw [if_pos h1] at hm ⊢
    simp only [Bool.and_eq_true, decide_eq_true_eq] at hm
    have hn : x.name.size ≤ 16 := by
      have := hm.1.1.1.1.1.1.1.1.1
      simp only [nameB, Bool.and_eq_true, decide_eq_true_eq] at this
      exact this.1.2
    obtain ⟨hp1, hp2⟩ := pr_small x.own hm.1.1.1.1.2
    refine ⟨by rw [List.length_append, ptext_length]; simp; omega, fun s hs => ?_⟩
    rcases List.mem_append.1 hs with hs | hs
    · simp only [List.mem_cons, List.not_mem_nil, or_false] at hs
      rcases hs with rfl | rfl | rfl
      · omega
      · rw [num8_size]; omega
      · rw [num8_size]; omega
    · simp only [ptext, List.mem_flatMap, List.mem_cons, List.not_mem_nil, or_false] at hs
      obtain ⟨p, hp, rfl | rfl⟩ := hs
      · have := (hp2 p hp).1; omega
      · exact (hp2 p hp).2
  · rw [if_neg h1] at hm ⊢
    by_cases h2 : x.kind = 2
    · rw [if_pos h2] at hm ⊢
      simp only [Bool.and_eq_true, decide_eq_true_eq] at hm
      have hd : x.data.size = 16 := hm.1.1.1.1.1.1.2
      refine ⟨by simp, fun s hs => ?_⟩
      simp only [List.mem_cons, List.not_mem_nil, or_false] at hs
      rcases hs with rfl | rfl
      · rw [num8_size]; omega
      · omega
    · rw [if_neg h2] at hm ⊢
      by_cases h3 : x.kind = 3
      · rw [if_pos h3] at hm ⊢
        refine ⟨by simp, fun s hs => ?_⟩
        simp only [List.mem_cons, List.not_mem_nil, or_false] at hs
        rcases hs with rfl | rfl <;> (rw [num8_size]; omega)
      · rw [if_neg h3] at hm ⊢
        refine ⟨by simp, fun s hs => ?_⟩
        simp only [List.mem_cons, List.not_mem_nil, or_false] at hs
        subst hs
        show (sumO (sumR x)).toArray.size ≤ 32
        rw [List.size_toArray, sumO_length]
        exact Nat.le_refl _
theorem texts_fit (x : Rec) (h : recE x = 0) : wE (recTexts x) = 0 := by
  obtain ⟨h1, h2⟩ := texts_small x h
  rw [wE, if_neg (by omega), if_neg]
  intro hq
  obtain ⟨s, hs, hl⟩ := List.any_eq_true.1 hq
  have := h2 s hs
  simp only [longB, decide_eq_true_eq] at hl
  omega
theorem kind_bd (x : Rec) (h : recE x = 0) : 1 ≤ x.kind ∧ x.kind ≤ 4 := by
  unfold recE at h
  split at h
  · cases h
  · omega
theorem flat_len (l : List ByteArray) (h : ∀ s ∈ l, s.size ≤ 32) : (flat l).length ≤ 2 + l.length * 35 := by
  unfold flat
  rw [List.length_append, puts_length]
  suffices (l.flatMap one).length ≤ l.length * 35 by omega
  induction l with
  | nil => simp
  | cons s l ih =>
    have h1 := h s (by simp)
    have h2 := ih (fun t ht => h t (by simp [ht]))
    have h3 : (one s).length ≤ 35 := by
      simp only [one, List.length_append, puts_length]
      have : s.data.toList.length = s.size := Array.length_toList
      omega
    simp only [List.flatMap_cons, List.length_append, List.length_cons]
    omega
def encB (x : Rec) : List UInt8 := if recE x = 0 then [UInt8.ofNat x.kind.toNat] ++ puts (wB (recTexts x)).length 2 ++ wB (recTexts x) else []
theorem encB_len (x : Rec) : (encB x).length ≤ 1000 := by
  unfold encB
  split
  · rename_i h
    obtain ⟨h1, h2⟩ := texts_small x h
    have h3 := flat_len (recTexts x) h2
    rw [wB, if_pos (texts_fit x h)]
    simp only [List.length_append, puts_length, List.length_cons, List.length_nil]
    omega
  · simp
/-- octets and an error are told -/
def EncOk (x : Rec) (w : World) (e : Ending) (w' : World) : Prop :=
  ∃ v, e = .returned (.tuple #[v, .int .i64 (recE x)]) ∧ w'.ownsRow w.heap.size 5 1 v (encB x).length (bytes (encB x)) ∧ Ext w w'
theorem sizeRec : (Tryz.prog.info? 27).map (·.size) = some 12 := by kernel_rfl


theorem kindO (k : Int) (h : 1 ≤ k ∧ k ≤ 4) : bytes [UInt8.ofNat k.toNat] = [.int .u8 (IntKind.u8.wrap k)] := by
  rcases (show k = 1 ∨ k = 2 ∨ k = 3 ∨ k = 4 by omega) with rfl | rfl | rfl | rfl <;> rfl
set_option maxRecDepth 100000 in
set_option maxHeartbeats 8000000 in
theorem encode0_any (w : World) (x : Rec) (hr : Rd w 0 w.heap.size x.oA (prps x.own)) (hx : x.wf) (hon : x.on ≤ 100000000) (hs : (sumR x).wf) (hE : recE x = 0) :
    Calls Tryz.prog 36 #[.agg x.cells.toArray] w (EncOk x w) := by
  have HCk := Lib.hid (fun W (hW : Ext w W) => check_any W x (Rd.at hr hW (Nat.le_refl _)) hx)
  have HTx := Lib.hid (fun W (hW : Ext w W) => texts_any W x (Rd.at hr hW (Nat.le_refl _)) hx hon hs)
  have HFit := Lib.hid (texts_fit x hE)
  have hk := kind_bd x hE
  have HEl := Lib.hid (encB_len x)
  have HSm := Lib.hid (texts_small x hE)
  have HB := Lib.hid (show encB x = [UInt8.ofNat x.kind.toNat] ++ puts (wB (recTexts x)).length 2 ++ wB (recTexts x) by rw [encB, if_pos hE])
  have HOut := Lib.hid (fun (e : Ending) (w' : World) (h : ∃ v, e = .returned (.tuple #[v, .int .i64 0]) ∧ w'.ownsRow w.heap.size 5 1 v (encB x).length (bytes (encB x)) ∧ Ext w w') => show EncOk x w e w' by
    obtain ⟨v, h1, h2⟩ := h
    exact ⟨v, by rw [hE]; exact h1, h2⟩)
  rw [hE] at HCk
  clear hr hx hs hE
  obtain ⟨B, hB⟩ : ∃ B, B = encB x := ⟨_, rfl⟩
  rw [← hB] at HEl HB HOut
  obtain ⟨tx, htx⟩ : ∃ tx, tx = recTexts x := ⟨_, rfl⟩
  rw [← htx] at HTx HFit HSm HB
  obtain ⟨OUT, hOUT⟩ : ∃ OUT : Ending → World → Prop, OUT = EncOk x w := ⟨_, rfl⟩
  rw [← hOUT] at HOut ⊢
  clear hB htx hOUT
  obtain ⟨kind, name, frm, guid, oA, on, oc, own, index, count, data, s0, s1, s2, s3⟩ := x
  simp only [Rec.cells] at HCk HTx ⊢
  dsimp only at hk HB hon
  have HKO := Lib.hid (kindO kind hk)
  obtain ⟨i0, hi0, hz0, hz1, hz2⟩ := info_parts info5
  obtain ⟨hk1, hk2⟩ := hk
  go_enter Tryz.func36, Tryz.ntmps36
  go_upto_region 1 with fail
  generalize hwH : World.alloc w _ = w1; have HH := Lib.hid (Heap.one hwH); clear hwH
  go_wp2_with (refine shl_load HH.out sizeRec (by kernel_rfl) rfl rfl rfl 0 rfl rfl ?_)
  refine (HCk.out w1 HH.out.ext).mono ?_
  rintro e w2 ⟨rfl, e2⟩
  have HH2 := Lib.hid (HH.out.later e2)
  clear HH e2
  have HH := HH2
  clear HH2
  go_wp2_with (refine shl_load HH.out sizeRec (by kernel_rfl) rfl rfl rfl 0 rfl rfl ?_)
  refine (HTx.out w2 HH.out.ext).mono ?_
  rintro e w3 ⟨v3, rfl, hown3, e3⟩
  obtain ⟨A3, c3, rfl, _, _, _⟩ := own_form hown3
  have HH3 := Lib.hid (HH.out.addRow e3 hown3)
  clear HH hown3 e3
  have hsm := HSm.out.1
  have HWr := Lib.hid (write_any w3 A3 tx.length c3 tx rfl (by omega) ((Rd.of_own (HH3.out.rowAt 0 rfl)).more (Nat.zero_le _) (Nat.le_refl _)))
  clear hsm
  go_wp2_with fail
  refine HWr.out.mono ?_
  rintro e w4 ⟨v4, rfl, hown4, e4⟩
  obtain ⟨A4, c4, rfl, _, _, _⟩ := own_form hown4
  have HH4 := Lib.hid (HH3.out.addRow e4 hown4)
  clear HH3 hown4 e4 HWr
  rw [HFit.out]
  have hlen : (wB tx).length ≤ 1000 := by have := HEl.out; rw [HB.out, List.length_append, List.length_append] at this; omega
  have HLt := Lib.hid (show B.length = 1 + 2 + (wB tx).length by rw [HB.out, List.length_append, List.length_append, puts_length]; rfl)
  generalize wB tx = bs at *
  obtain ⟨m, hm⟩ : ∃ m, m = bs.length := ⟨_, rfl⟩
  rw [← hm] at HH4 HB HLt hlen ⊢
  have HM := Lib.hid hm
  clear hm
  have hkb : kind % 256 = kind := by omega
  have HH := HH4
  clear HH4
  go_wp2_with fail
  have HL : Heap w [.box w.heap.size [.int .i64 kind, .string name, .int .i64 frm, .int .i64 guid, .slice oA on oc, .int .i64 index, .int .i64 count, .string data, .int .u64 s0, .int .u64 s1, .int .u64 s2, .int .u64 s3]] w4.drew := (HH.out.only 2 rfl).drew
  refine wp_region_held_drew (S := Heap w [.box w.heap.size [.int .i64 kind, .string name, .int .i64 frm, .int .i64 guid, .slice oA on oc, .int .i64 index, .int .i64 count, .string data, .int .u64 s0, .int .u64 s1, .int .u64 s2, .int .u64 s3]]) (by kernel_rfl) HL (fun hHeld => ?_)
  have HH0 := Lib.hid HH.out.drew
  clear HH HL
  generalize hwd : World.drew w4 = wd at *
  clear hwd
  refine takeL 0 (v := ?_) rfl (by kernel_rfl) (by kernel_rfl) (by kernel_rfl) (fun _ _ _ h => h) (by kernel_rfl) ?_ (by assumption) ?_; rotate_left; (focus (intro w hSw; (try dsimp only at hSw); go_simp <;> with_reducible rfl)); (try simp only [Act.put, List.setIfInBounds_toArray, List.set_cons_zero, List.set_cons_succ])
  refine takeL 1 rfl (by kernel_rfl) (by kernel_rfl) (by kernel_rfl) (fun _ _ _ h => h) (by kernel_rfl) (fun wT hST => sh_run_load1 hST rfl rfl 0 rfl rfl (by kernel_rfl)) hHeld ?_; (try simp only [Act.put, List.setIfInBounds_toArray, List.set_cons_zero, List.set_cons_succ])
  refine takeL 2 (v := ?_) rfl (by kernel_rfl) (by kernel_rfl) (by kernel_rfl) (fun _ _ _ h => h) (by kernel_rfl) ?_ (by assumption) ?_; rotate_left; (focus (intro w hSw; (try dsimp only at hSw); go_simp <;> with_reducible rfl)); (try simp only [Act.put, List.setIfInBounds_toArray, List.set_cons_zero, List.set_cons_succ])
  refine takeL 4 (v := ?_) rfl (by kernel_rfl) (by kernel_rfl) (by kernel_rfl) (fun _ _ _ h => h) (by kernel_rfl) ?_ (by assumption) ?_; rotate_left; (focus (intro w hSw; (try dsimp only at hSw); go_simp <;> with_reducible rfl)); (try simp only [Act.put, List.setIfInBounds_toArray, List.set_cons_zero, List.set_cons_succ])
  refine takeL 5 (v := ?_) rfl (by kernel_rfl) (by kernel_rfl) (by kernel_rfl) (fun _ _ _ h => h) (by kernel_rfl) ?_ (by assumption) ?_; rotate_left; (focus (intro w hSw; (try dsimp only at hSw); go_simp <;> with_reducible rfl)); (try simp only [Act.put, List.setIfInBounds_toArray, List.set_cons_zero, List.set_cons_succ])
  refine takeL 7 (v := ?_) rfl (by kernel_rfl) (by kernel_rfl) (by kernel_rfl) (fun _ _ _ h => h) (by kernel_rfl) ?_ (by assumption) ?_; rotate_left; (focus (intro w hSw; (try dsimp only at hSw); go_simp <;> with_reducible rfl)); (try simp only [Act.put, List.setIfInBounds_toArray, List.set_cons_zero, List.set_cons_succ])
  clear hHeld
  refine twoH 3 6 rfl rfl (by kernel_rfl) (by kernel_rfl) (by kernel_rfl) (fun K hK => ?_) (fun K hK => ?_)
  · go_simp; generalize hwA : World.alloc _ _ = w5; have HH5 := Lib.hid ((HH0).out.allocRow hwA (n := 1) (size := 1) rfl (by simp [maxLen])); clear hwA HH0
    refine hK.out _ _ ((HH5).out.only 3 rfl) (fun hHeld => ?_); clear hK K; (try simp only [Act.put, List.setIfInBounds_toArray, List.set_cons_zero, List.set_cons_succ]); clear hHeld
    refine oneL 6 rfl (by kernel_rfl) (by kernel_rfl) (fun K hK => ?_)
    go_simp; refine (put_any (m : Int) _ 2 (by omega) rfl w5 (by omega) (by omega)).mono ?_; rintro e w6 ⟨vw6, rfl, hownw6, ew6⟩; obtain ⟨Aw6, cw6, rfl, _, _, _⟩ := own_form hownw6; have HH6 := Lib.hid ((HH5).out.addRow ew6 hownw6); clear HH5 hownw6 ew6; go_wp2_with fail
    refine hK.out _ _ ((HH6).out.only 4 rfl) (fun hHeld => ?_); clear hK K; (try simp only [Act.put, List.setIfInBounds_toArray, List.set_cons_zero, List.set_cons_succ]); clear hHeld
    refine oneL 8 rfl (by kernel_rfl) (by kernel_rfl) (fun K hK => ?_); go_simp; generalize hwA : World.alloc _ _ = w7; have HH7 := Lib.hid ((HH6).out.allocE hwA); clear hwA HH6; refine hK.out _ _ ((HH7).out.only 5 rfl) (fun hHeld => ?_); clear hK K; (try simp only [Act.put, List.setIfInBounds_toArray, List.set_cons_zero, List.set_cons_succ]); clear hHeld; refine oneL 9 rfl (by kernel_rfl) (by kernel_rfl) (fun K hK => ?_); go_simp; refine (join_any w7 _ 3 3 [⟨(some ⟨wd.heap.size, 0, none⟩), 1, 1, [UInt8.ofNat kind.toNat]⟩, ⟨Aw6, 2, cw6, puts (m : Int) 2⟩, ⟨A4, m, c4, bs⟩] rfl ((HH7.out.boxRd 0 rfl).more (Nat.zero_le _) (Nat.le_refl _)) (fun x hx => (by simp only [List.mem_cons, List.not_mem_nil, or_false] at hx; rcases hx with rfl | rfl | rfl; exact ⟨rfl, by rw [HKO.out]; exact (Rd.of_own (HH7.out.rowAt 2 rfl)).more (Nat.zero_le _) (Nat.le_refl _)⟩; exact ⟨(puts_length _ _).symm, (Rd.of_own (HH7.out.rowAt 1 rfl)).more (Nat.zero_le _) (Nat.le_refl _)⟩; exact ⟨HM.out, (Rd.of_own (HH7.out.rowAt 3 rfl)).more (Nat.zero_le _) (Nat.le_refl _)⟩)) (by omega) (by simp only [catL, List.flatMap_cons, List.flatMap_nil, List.length_append, List.length_cons, List.length_nil, puts_length, ← HM.out]; omega)).mono ?_; rintro e w8 ⟨v8, rfl, hown8, e8⟩; have HO := Lib.hid (own_lower hown8 HH7.out.ext.size); have HX := Lib.hid (HH7.out.ext.trans e8); have HS8 := Lib.hid (HH7.out.later e8); clear hown8 e8; go_wp2_with fail; refine hK.out _ _ ((HS8).out.only 5 rfl) (fun hHeld => ?_); clear hK K; (try simp only [Act.put, List.setIfInBounds_toArray, List.set_cons_zero, List.set_cons_succ]); refine takeL 10 (v := ?_) rfl (by kernel_rfl) (by kernel_rfl) (by kernel_rfl) (fun _ _ _ h => h) (by kernel_rfl) ?_ (by assumption) ?_; rotate_left; (focus (intro w hSw; (try dsimp only at hSw); go_simp <;> with_reducible rfl)); (try simp only [Act.put, List.setIfInBounds_toArray, List.set_cons_zero, List.set_cons_succ]); refine takeL 11 (v := ?_) rfl (by kernel_rfl) (by kernel_rfl) (by kernel_rfl) (fun _ _ _ h => h) (by kernel_rfl) ?_ (by assumption) ?_; rotate_left; (focus (intro w hSw; (try dsimp only at hSw); go_simp <;> with_reducible rfl)); (try simp only [Act.put, List.setIfInBounds_toArray, List.set_cons_zero, List.set_cons_succ]); refine wpAnyH_done (by kernel_rfl) ?_ _; go_wp2_with fail; refine HOut.out _ _ ⟨_, rfl, ?_, HX.out⟩; have h9 := HO.out; have hc : catL [⟨(some ⟨wd.heap.size, 0, none⟩), 1, 1, [UInt8.ofNat kind.toNat]⟩, ⟨Aw6, 2, cw6, puts (m : Int) 2⟩, ⟨A4, m, c4, bs⟩] = B := (by rw [HB.out]; simp [catL, List.append_assoc]); rw [hc] at h9; exact h9
  · go_simp; refine (put_any (m : Int) _ 2 (by omega) rfl wd (by omega) (by omega)).mono ?_; rintro e w5 ⟨vw5, rfl, hownw5, ew5⟩; obtain ⟨Aw5, cw5, rfl, _, _, _⟩ := own_form hownw5; have HH5 := Lib.hid ((HH0).out.addRow ew5 hownw5); clear HH0 hownw5 ew5; go_wp2_with fail
    refine hK.out _ _ ((HH5).out.only 3 rfl) (fun hHeld => ?_); clear hK K; (try simp only [Act.put, List.setIfInBounds_toArray, List.set_cons_zero, List.set_cons_succ]); clear hHeld
    refine oneL 3 rfl (by kernel_rfl) (by kernel_rfl) (fun K hK => ?_)
    go_simp; generalize hwA : World.alloc _ _ = w6; have HH6 := Lib.hid ((HH5).out.allocRow hwA (n := 1) (size := 1) rfl (by simp [maxLen])); clear hwA HH5
    refine hK.out _ _ ((HH6).out.only 4 rfl) (fun hHeld => ?_); clear hK K; (try simp only [Act.put, List.setIfInBounds_toArray, List.set_cons_zero, List.set_cons_succ]); clear hHeld
    refine oneL 8 rfl (by kernel_rfl) (by kernel_rfl) (fun K hK => ?_); go_simp; generalize hwA : World.alloc _ _ = w7; have HH7 := Lib.hid ((HH6).out.allocE hwA); clear hwA HH6; refine hK.out _ _ ((HH7).out.only 5 rfl) (fun hHeld => ?_); clear hK K; (try simp only [Act.put, List.setIfInBounds_toArray, List.set_cons_zero, List.set_cons_succ]); clear hHeld; refine oneL 9 rfl (by kernel_rfl) (by kernel_rfl) (fun K hK => ?_); go_simp; refine (join_any w7 _ 3 3 [⟨(some ⟨w5.heap.size, 0, none⟩), 1, 1, [UInt8.ofNat kind.toNat]⟩, ⟨Aw5, 2, cw5, puts (m : Int) 2⟩, ⟨A4, m, c4, bs⟩] rfl ((HH7.out.boxRd 0 rfl).more (Nat.zero_le _) (Nat.le_refl _)) (fun x hx => (by simp only [List.mem_cons, List.not_mem_nil, or_false] at hx; rcases hx with rfl | rfl | rfl; exact ⟨rfl, by rw [HKO.out]; exact (Rd.of_own (HH7.out.rowAt 1 rfl)).more (Nat.zero_le _) (Nat.le_refl _)⟩; exact ⟨(puts_length _ _).symm, (Rd.of_own (HH7.out.rowAt 2 rfl)).more (Nat.zero_le _) (Nat.le_refl _)⟩; exact ⟨HM.out, (Rd.of_own (HH7.out.rowAt 3 rfl)).more (Nat.zero_le _) (Nat.le_refl _)⟩)) (by omega) (by simp only [catL, List.flatMap_cons, List.flatMap_nil, List.length_append, List.length_cons, List.length_nil, puts_length, ← HM.out]; omega)).mono ?_; rintro e w8 ⟨v8, rfl, hown8, e8⟩; have HO := Lib.hid (own_lower hown8 HH7.out.ext.size); have HX := Lib.hid (HH7.out.ext.trans e8); have HS8 := Lib.hid (HH7.out.later e8); clear hown8 e8; go_wp2_with fail; refine hK.out _ _ ((HS8).out.only 5 rfl) (fun hHeld => ?_); clear hK K; (try simp only [Act.put, List.setIfInBounds_toArray, List.set_cons_zero, List.set_cons_succ]); refine takeL 10 (v := ?_) rfl (by kernel_rfl) (by kernel_rfl) (by kernel_rfl) (fun _ _ _ h => h) (by kernel_rfl) ?_ (by assumption) ?_; rotate_left; (focus (intro w hSw; (try dsimp only at hSw); go_simp <;> with_reducible rfl)); (try simp only [Act.put, List.setIfInBounds_toArray, List.set_cons_zero, List.set_cons_succ]); refine takeL 11 (v := ?_) rfl (by kernel_rfl) (by kernel_rfl) (by kernel_rfl) (fun _ _ _ h => h) (by kernel_rfl) ?_ (by assumption) ?_; rotate_left; (focus (intro w hSw; (try dsimp only at hSw); go_simp <;> with_reducible rfl)); (try simp only [Act.put, List.setIfInBounds_toArray, List.set_cons_zero, List.set_cons_succ]); refine wpAnyH_done (by kernel_rfl) ?_ _; go_wp2_with fail; refine HOut.out _ _ ⟨_, rfl, ?_, HX.out⟩; have h9 := HO.out; have hc : catL [⟨(some ⟨w5.heap.size, 0, none⟩), 1, 1, [UInt8.ofNat kind.toNat]⟩, ⟨Aw5, 2, cw5, puts (m : Int) 2⟩, ⟨A4, m, c4, bs⟩] = B := (by rw [HB.out]; simp [catL, List.append_assoc]); rw [hc] at h9; exact h9
set_option maxRecDepth 100000 in
set_option maxHeartbeats 8000000 in
theorem encode1_any (w : World) (x : Rec) (hr : Rd w 0 w.heap.size x.oA (prps x.own)) (hx : x.wf) (hE : recE x ≠ 0) :
    Calls Tryz.prog 36 #[.agg x.cells.toArray] w (EncOk x w) := by
  have HCk := Lib.hid (fun W (hW : Ext w W) => check_any W x (Rd.at hr hW (Nat.le_refl _)) hx)
  have HOut := Lib.hid (fun (e : Ending) (w' : World) (h : e = .returned (.tuple #[.slice none 0 0, .int .i64 (recE x)]) ∧ Ext w w') => show EncOk x w e w' from
    ⟨_, h.1, by rw [encB, if_neg hE]; exact World.ownsRow_nil _ _ _ _, h.2⟩)
  have d1 : (recE x != 0) = true := by simpa using hE
  clear hr hx hE
  generalize recE x = E at *
  obtain ⟨OUT, hOUT⟩ : ∃ OUT : Ending → World → Prop, OUT = EncOk x w := ⟨_, rfl⟩
  rw [← hOUT] at HOut ⊢
  clear hOUT
  obtain ⟨kind, name, frm, guid, oA, on, oc, own, index, count, data, s0, s1, s2, s3⟩ := x
  simp only [Rec.cells] at HCk ⊢
  go_enter Tryz.func36, Tryz.ntmps36
  go_upto_region 1 with fail
  generalize hwH : World.alloc w _ = w1; have HH := Lib.hid (Heap.one hwH); clear hwH
  go_wp2_with (refine shl_load HH.out sizeRec (by kernel_rfl) rfl rfl rfl 0 rfl rfl ?_)
  refine (HCk.out w1 HH.out.ext).mono ?_
  rintro e w2 ⟨rfl, e2⟩
  go_wp2_with fail
  exact HOut.out _ _ ⟨rfl, HH.out.ext.trans e2⟩
theorem encode_any (w : World) (x : Rec) (hr : Rd w 0 w.heap.size x.oA (prps x.own)) (hx : x.wf) (hon : x.on ≤ 100000000) (hs : (sumR x).wf) :
    Calls Tryz.prog 36 #[.agg x.cells.toArray] w (EncOk x w) := by
  by_cases hE : recE x = 0
  · exact encode0_any w x hr hx hon hs hE
  · exact encode1_any w x hr hx hE
end Go.Proofs.YtmecjjmlccdppaaGreatDoor
