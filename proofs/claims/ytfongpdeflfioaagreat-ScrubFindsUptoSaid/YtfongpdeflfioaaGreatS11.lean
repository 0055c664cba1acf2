/- The texts Pg, Rdp, Read in one file. -/
import Derived.Test.YtfongpdeflfioaaGreatS9
import Derived.Test.YtfongpdeflfioaaGreatS10
import Derived.Test.YtfongpdeflfioaaGreatS8
import Derived.Deep.DeepAppendWide
import Derived.Test.YtfongpdeflfioaaGreatS2
/- fletch.Of, pages.Encode. -/
namespace Go.Proofs.YtfongpdeflfioaaGreat
open Go.RowKit Go.Maps Go.Sort Go.Shelf
set_option linter.unusedVariables false
set_option linter.unusedSimpArgs false
section
variable {P : Program} {l rest rest' rest'' : List Oper} {Q : Exit → Act → World → Prop} {md : Region.Mode} {S : World → Prop} {oi oj ok : Oper} {fuel : Nat} {listed : Array Bool} {a : Act} {w : World}
theorem threeH (i j k : Nat) (hi : l.drop i = oi :: rest) (hj : l.drop j = oj :: rest') (hk : l.drop k = ok :: rest'') (hr : Region.ready md l.toArray listed = [i, j, k]) (wi : Region.wanted oi (yielded l.toArray a.tmps) = true) (wj : Region.wanted oj (yielded l.toArray a.tmps) = true) (wk : Region.wanted ok (yielded l.toArray a.tmps) = true)
    (h1 : ∀ K' : Act → World → Prop, Shut (∀ a w, S w → (S w → wpAnyH P md l.toArray Q S fuel (listed.setIfInBounds i true) a w) → K' a w) → Oper.wp P oi a w K' Q)
    (h2 : ∀ K' : Act → World → Prop, Shut (∀ a w, S w → (S w → wpAnyH P md l.toArray Q S fuel (listed.setIfInBounds j true) a w) → K' a w) → Oper.wp P oj a w K' Q)
    (h3 : ∀ K' : Act → World → Prop, Shut (∀ a w, S w → (S w → wpAnyH P md l.toArray Q S fuel (listed.setIfInBounds k true) a w) → K' a w) → Oper.wp P ok a w K' Q) : wpAnyH P md l.toArray Q S (fuel + 1) listed a w :=
  wpAnyH_ready hr (by simp) (AllReadyH.cons (at_drop hi) (fun K' hK => by rw [if_pos wi]; exact h1 K' hK) (AllReadyH.cons (at_drop hj) (fun K' hK => by rw [if_pos wj]; exact h2 K' hK) (AllReadyH.cons (at_drop hk) (fun K' hK => by rw [if_pos wk]; exact h3 K' hK) AllReadyH.nil)))
end
set_option maxRecDepth 100000 in
set_option maxHeartbeats 1000000 in
theorem fof_any (w : World) (A : Option Addr) (n c : Nat) (l : List UInt8) (hn : n = l.length) (hr : Rd w 0 w.heap.size A (bytes l)) (hnc : n ≤ c) (hN : n ≤ 100000000000) :
    Calls Tryz.prog 101 #[.slice A n c] w fun e w' => e = .returned (.agg (feed Su.zero l).cells.toArray) ∧ Ext w w' := by
  have HF := Lib.hid (fun W (hW : Ext w W) => ffeed_any W Su.zero A n c l hn (Rd.at hr hW (Nat.le_refl _)) hnc hN)
  clear hn hr
  generalize feed Su.zero l = s at *
  obtain ⟨sa, sb, sc, sd⟩ := s
  simp only [Su.cells, Su.zero] at *
  go_enter Tryz.func101, Tryz.ntmps101
  go_upto_region 1 with fail
  generalize hwH : World.alloc w _ = w1; have HH := Lib.hid (Heap.one hwH); clear hwH
  go_wp2_with (first | (refine shl_store HH.out sizeSu rfl rfl rfl rfl 0 rfl rfl rfl rfl ?_; clear HH; intro wS HHS; have HH := Lib.hid HHS; clear HHS) | (go_at_call 131; (with_reducible refine (HF.out _ HH.out.ext).mono ?_); rintro e wC ⟨rfl, eC⟩; have HHn := Lib.hid (HH.out.later eC); clear HH eC; have HH := HHn; clear HHn))
  refine ret_cell sizeSu (by kernel_rfl) HH.out rfl rfl 0 rfl rfl rfl ?_
  exact ⟨rfl, HH.out.ext⟩
theorem field_sum (sa sb sc sd : Int) (W : World) : (Instr.field 166 (.agg #[.int .u64 sa, .int .u64 sb, .int .u64 sc, .int .u64 sd]) 0).run Tryz.prog W = .ok (.int .u64 sa) W := by kernel_rfl
theorem puts_w64 (x : Int) : puts (wrap64 x) 8 = puts x 8 := by
  have h := puts_i64 x
  rw [IntKind.wrap_i64] at h
  unfold wrap64
  exact h
def pgH (b : List UInt8) (next : Int) : List UInt8 := puts (b.length : Int) 2 ++ puts next 2 ++ b ++ List.replicate (52 - b.length) 0
def pgB (b : List UInt8) (next : Int) : List UInt8 := pgH b next ++ puts (feed Su.zero (pgH b next)).a 8
def pgE (b : List UInt8) (next : Int) : Int := if 52 < b.length then 5 else if next < 0 ∨ 8192 ≤ next then 4 else 0
theorem pgH_len (b : List UInt8) (next : Int) (h : b.length ≤ 52) : (pgH b next).length = 56 := by simp [pgH, puts_length]; omega
theorem pgB_len (b : List UInt8) (next : Int) (h : b.length ≤ 52) : (pgB b next).length = 64 := by simp [pgB, puts_length, pgH_len b next h]
def PgOut (w : World) (b : List UInt8) (next : Int) (e : Ending) (w' : World) : Prop :=
  ∃ v n, e = .returned (.tuple #[v, .int .i64 (pgE b next)]) ∧ w'.ownsRow w.heap.size 5 1 v n (bytes (if pgE b next = 0 then pgB b next else [])) ∧ Ext w w'
set_option maxRecDepth 100000 in
set_option maxHeartbeats 8000000 in
theorem pgenc_any (w : World) (A : Option Addr) (n c : Nat) (b : List UInt8) (next : Int) (hn : n = b.length) (hr : Rd w 0 w.heap.size A (bytes b)) (hx1 : -9223372036854775808 ≤ next) (hx2 : next ≤ 9223372036854775807) (hm : n ≤ 9223372036854775807) :
    Calls Tryz.prog 80 #[.slice A n c, .int .i64 next] w (PgOut w b next) := by
  have Hn := Lib.hid hn
  have HB := Lib.hid hr
  have HE := Lib.hid (show pgE b next = if 52 < b.length then 5 else if next < 0 ∨ 8192 ≤ next then 4 else 0 from rfl)
  clear hr hn
  by_cases h1 : 52 < n
  · have HV := Lib.hid (show pgE b next = 5 by rw [HE.out, ← Hn.out, if_pos h1])
    go_enter Tryz.func80, Tryz.ntmps80
    go_wp2_with fail
    go_ret2
    exact ⟨_, 0, by rw [HV.out]; rfl, by rw [HV.out, if_neg (by decide)]; exact World.ownsRow_nil _ _ _ _, Ext.refl _⟩
  by_cases h2 : next < 0
  · have HV := Lib.hid (show pgE b next = 4 by rw [HE.out, ← Hn.out, if_neg h1, if_pos (.inl h2)])
    go_enter Tryz.func80, Tryz.ntmps80
    go_wp2_with fail
    go_ret2
    exact ⟨_, 0, by rw [HV.out]; rfl, by rw [HV.out, if_neg (by decide)]; exact World.ownsRow_nil _ _ _ _, Ext.refl _⟩
  by_cases h3 : 8192 ≤ next
  · have HV := Lib.hid (show pgE b next = 4 by rw [HE.out, ← Hn.out, if_neg h1, if_pos (.inr h3)])
    go_enter Tryz.func80, Tryz.ntmps80
    go_wp2_with fail
    go_ret2
    exact ⟨_, 0, by rw [HV.out]; rfl, by rw [HV.out, if_neg (by decide)]; exact World.ownsRow_nil _ _ _ _, Ext.refl _⟩
  · have HV := Lib.hid (show pgE b next = 0 by rw [HE.out, ← Hn.out, if_neg h1, if_neg (by omega)])
    obtain ⟨m, hm2⟩ : ∃ m, n + m = 52 := ⟨52 - n, by omega⟩
    have hsub : (52 : Int) - (n : Int) = (m : Int) := by omega
    have hwr : IntKind.i64.wrap (m : Int) = (m : Int) := IntWalk.i64_in _ (by omega)
    have hmk := mk_bytes m (by omega)
    have HJ := Lib.hid (show pgH b next = catL [⟨none, 2, 2, puts (n : Int) 2⟩, ⟨none, 2, 2, puts next 2⟩, ⟨A, n, c, b⟩, ⟨none, m, m, List.replicate m 0⟩] by
      rw [pgH, show 52 - b.length = m by rw [← Hn.out]; omega, Hn.out]
      simp [catL])
    have HP := Lib.hid (show pgB b next = pgH b next ++ puts (feed Su.zero (pgH b next)).a 8 from rfl)
    have HL := Lib.hid (pgH_len b next (by rw [← Hn.out]; omega))
    generalize pgH b next = PH at *
    go_enter Tryz.func80, Tryz.ntmps80
    go_upto_region 5 with fail
    refine wp_region_held_drew (S := fun _ => True) (by kernel_rfl) trivial (fun hHeld => ?_)
    have HH0 := Lib.hid (Heap.start w).drew
    generalize hwd : World.drew w = W0 at *
    clear hwd
    refine tS 0 ?_; (try simp only [Act.put, lyA, lyB, lyC])
    refine tS 1 ?_; (try simp only [Act.put, lyA, lyB, lyC])
    refine tS 3 ?_; (try simp only [Act.put, lyA, lyB, lyC])
    refine tS 5 ?_; (try simp only [Act.put, lyA, lyB, lyC])
    refine tS 6 ?_; (try simp only [Act.put, lyA, lyB, lyC])
    refine tS 7 ?_; (try simp only [Act.put, lyA, lyB, lyC])
    refine tS 8 ?_; (try simp only [Act.put, lyA, lyB, lyC])
    refine twoH 2 9 rfl rfl (by kernel_rfl) (by kernel_rfl) (by kernel_rfl) (fun K hK => ?_) (fun K hK => ?_)
    · go_simp
      refine (put_any (n : Int) _ 2 (by decide) rfl W0 (by omega) (by omega)).mono ?_
      rintro e W1 ⟨v, rfl, hown, ee⟩
      obtain ⟨AP, cP, rfl, _, _, _⟩ := own_form hown
      have HH1 := Lib.hid (HH0.out.addRow ee hown)
      clear HH0 hown ee
      go_wp2_with fail
      refine hK.out _ _ trivial (fun hHeld => ?_)
      clear hK K
      (try simp only [Act.put, lyA, lyB, lyC])
      refine twoH 4 9 rfl rfl (by kernel_rfl) (by kernel_rfl) (by kernel_rfl) (fun K hK => ?_) (fun K hK => ?_)
      · go_simp
        refine (put_any next _ 2 (by decide) rfl W1 (by omega) (by omega)).mono ?_
        rintro e W2 ⟨v, rfl, hown, ee⟩
        obtain ⟨AN, cN, rfl, _, _, _⟩ := own_form hown
        have HH2 := Lib.hid (HH1.out.addRow ee hown)
        clear HH1 hown ee
        go_wp2_with fail
        refine hK.out _ _ trivial (fun hHeld => ?_)
        clear hK K
        (try simp only [Act.put, lyA, lyB, lyC])
        refine oS 9 (fun K hK => ?_)
        go_simp
        generalize hwA : World.alloc _ _ = W3
        have HH3 := Lib.hid (HH2.out.allocRow hwA (n := m) (size := 1) (by simp [bytes]) (by simp only [maxLen]; omega))
        clear hwA HH2
        refine hK.out _ _ trivial (fun hHeld => ?_)
        clear hK K
        (try simp only [Act.put, lyA, lyB, lyC])
        refine oS 10 (fun K hK => ?_)
        go_simp; generalize hwA : World.alloc _ _ = W4; have HH4 := Lib.hid ((HH3).out.allocE hwA); clear hwA HH3
        refine hK.out _ _ trivial (fun hHeld => ?_)
        clear hK K
        (try simp only [Act.put, lyA, lyB, lyC])
        refine oS 11 (fun K hK => ?_)
        go_simp
        refine (join_any W4 _ 4 4 [⟨AP, 2, cP, puts (n : Int) 2⟩, ⟨AN, 2, cN, puts next 2⟩, ⟨A, n, c, b⟩, ⟨some ⟨W2.heap.size, 0, none⟩, m, m, List.replicate m 0⟩] rfl ((HH4.out.boxRd 0 rfl).m0) (fun x hx => by
              simp only [List.mem_cons, List.not_mem_nil, or_false] at hx
              rcases hx with rfl | rfl | rfl | rfl
              · exact ⟨(by rw [puts_length]), (HH4.out.rowRd 3 rfl).m0⟩
              · exact ⟨(by rw [puts_length]), (HH4.out.rowRd 2 rfl).m0⟩
              · exact ⟨Hn.out, HH4.out.old HB.out⟩
              · exact ⟨(by simp), (HH4.out.rowRd 1 rfl).m0⟩) (by decide) (Nat.le_trans (Nat.le_of_eq (congrArg List.length (show _ = PH from HJ.out.symm))) (by rw [HL.out]; decide))).mono ?_
        rintro e Wj ⟨v, rfl, hown, ee⟩
        have hown2 : Wj.ownsRow W4.heap.size 5 1 v PH.length (bytes PH) := by rw [HJ.out]; exact hown
        clear hown
        obtain ⟨AJ, cJ, rfl, _, _, _⟩ := own_form hown2
        have HHj := Lib.hid (HH4.out.addRow ee hown2)
        clear HH4 hown2 ee
        go_wp2_with fail
        refine hK.out _ _ trivial (fun hHeld => ?_)
        clear hK K
        (try simp only [Act.put, lyA, lyB, lyC])
        refine tS 12 ?_; (try simp only [Act.put, lyA, lyB, lyC])
        refine wpAnyH_done (by kernel_rfl) ?_ _
        have HH := Lib.hid (HHj.out.only 0 rfl)
        clear HHj
        have HOf := Lib.hid (fof_any Wj AJ PH.length cJ PH rfl ((HH.out.rowRd 0 rfl).m0) (own_form2 (HH.out.rowAt 0 rfl)).1 (by rw [HL.out]; decide)); generalize hsF : feed Su.zero PH = sF at *; clear hsF; obtain ⟨sa, sb, sc, sd⟩ := sF; simp only [Su.cells] at HOf HP; go_wp2_with fail; refine HOf.out.mono ?_; rintro e Wf ⟨rfl, ef⟩; have HHf := Lib.hid (HH.out.later ef); clear HH ef HOf; have hfld := field_sum sa sb sc sd; have hwf := int_wf (wrap64_wf sa); have hpq := Lib.hid (puts_w64 sa); go_wp2_with fail; generalize wrap64 sa = q at *; refine (put_any q _ 8 (by decide) rfl Wf hwf.1 hwf.2).mono ?_; rintro e Wp ⟨v, rfl, hown, ee⟩; obtain ⟨Ap, cp, rfl, _, _, _⟩ := own_form hown; have HHp := Lib.hid (HHf.out.addRow ee hown); clear HHf hown ee; go_wp2_with fail; generalize hwA : World.alloc Wp _ = Wb; have HHb := Lib.hid (HHp.out.allocE hwA); clear hwA HHp; refine (join_any Wb _ 2 2 [⟨AJ, PH.length, cJ, PH⟩, ⟨Ap, 8, cp, puts q 8⟩] rfl ((HHb.out.boxRd 0 rfl).m0) (fun x hx => by simp only [List.mem_cons, List.not_mem_nil, or_false] at hx; rcases hx with rfl | rfl; exact ⟨rfl, (HHb.out.rowRd 2 rfl).m0⟩; exact ⟨by rw [puts_length], (HHb.out.rowRd 1 rfl).m0⟩) (by decide) (by simp [catL, puts_length, HL.out])).mono ?_; rintro e Wz ⟨v, rfl, hown, ee⟩; have HHz := Lib.hid (HHb.out.addRow ee hown); clear HHb hown ee; go_wp2_with fail; go_ret2; exact ⟨_, _, by rw [HV.out]; rfl, by rw [HV.out, if_pos rfl, HP.out, ← hpq.out]; have h := HHz.out.rowAt 0 rfl; simpa [catL] using h, HHz.out.ext⟩
      · go_simp
        generalize hwA : World.alloc _ _ = W2
        have HH2 := Lib.hid (HH1.out.allocRow hwA (n := m) (size := 1) (by simp [bytes]) (by simp only [maxLen]; omega))
        clear hwA HH1
        refine hK.out _ _ trivial (fun hHeld => ?_)
        clear hK K
        (try simp only [Act.put, lyA, lyB, lyC])
        refine oS 4 (fun K hK => ?_)
        go_simp
        refine (put_any next _ 2 (by decide) rfl W2 (by omega) (by omega)).mono ?_
        rintro e W3 ⟨v, rfl, hown, ee⟩
        obtain ⟨AN, cN, rfl, _, _, _⟩ := own_form hown
        have HH3 := Lib.hid (HH2.out.addRow ee hown)
        clear HH2 hown ee
        go_wp2_with fail
        refine hK.out _ _ trivial (fun hHeld => ?_)
        clear hK K
        (try simp only [Act.put, lyA, lyB, lyC])
        refine oS 10 (fun K hK => ?_)
        go_simp; generalize hwA : World.alloc _ _ = W4; have HH4 := Lib.hid ((HH3).out.allocE hwA); clear hwA HH3
        refine hK.out _ _ trivial (fun hHeld => ?_)
        clear hK K
        (try simp only [Act.put, lyA, lyB, lyC])
        refine oS 11 (fun K hK => ?_)
        go_simp
        refine (join_any W4 _ 4 4 [⟨AP, 2, cP, puts (n : Int) 2⟩, ⟨AN, 2, cN, puts next 2⟩, ⟨A, n, c, b⟩, ⟨some ⟨W1.heap.size, 0, none⟩, m, m, List.replicate m 0⟩] rfl ((HH4.out.boxRd 0 rfl).m0) (fun x hx => by
              simp only [List.mem_cons, List.not_mem_nil, or_false] at hx
              rcases hx with rfl | rfl | rfl | rfl
              · exact ⟨(by rw [puts_length]), (HH4.out.rowRd 3 rfl).m0⟩
              · exact ⟨(by rw [puts_length]), (HH4.out.rowRd 1 rfl).m0⟩
              · exact ⟨Hn.out, HH4.out.old HB.out⟩
              · exact ⟨(by simp), (HH4.out.rowRd 2 rfl).m0⟩) (by decide) (Nat.le_trans (Nat.le_of_eq (congrArg List.length (show _ = PH from HJ.out.symm))) (by rw [HL.out]; decide))).mono ?_
        rintro e Wj ⟨v, rfl, hown, ee⟩
        have hown2 : Wj.ownsRow W4.heap.size 5 1 v PH.length (bytes PH) := by rw [HJ.out]; exact hown
        clear hown
        obtain ⟨AJ, cJ, rfl, _, _, _⟩ := own_form hown2
        have HHj := Lib.hid (HH4.out.addRow ee hown2)
        clear HH4 hown2 ee
        go_wp2_with fail
        refine hK.out _ _ trivial (fun hHeld => ?_)
        clear hK K
        (try simp only [Act.put, lyA, lyB, lyC])
        refine tS 12 ?_; (try simp only [Act.put, lyA, lyB, lyC])
        refine wpAnyH_done (by kernel_rfl) ?_ _
        have HH := Lib.hid (HHj.out.only 0 rfl)
        clear HHj
        have HOf := Lib.hid (fof_any Wj AJ PH.length cJ PH rfl ((HH.out.rowRd 0 rfl).m0) (own_form2 (HH.out.rowAt 0 rfl)).1 (by rw [HL.out]; decide)); generalize hsF : feed Su.zero PH = sF at *; clear hsF; obtain ⟨sa, sb, sc, sd⟩ := sF; simp only [Su.cells] at HOf HP; go_wp2_with fail; refine HOf.out.mono ?_; rintro e Wf ⟨rfl, ef⟩; have HHf := Lib.hid (HH.out.later ef); clear HH ef HOf; have hfld := field_sum sa sb sc sd; have hwf := int_wf (wrap64_wf sa); have hpq := Lib.hid (puts_w64 sa); go_wp2_with fail; generalize wrap64 sa = q at *; refine (put_any q _ 8 (by decide) rfl Wf hwf.1 hwf.2).mono ?_; rintro e Wp ⟨v, rfl, hown, ee⟩; obtain ⟨Ap, cp, rfl, _, _, _⟩ := own_form hown; have HHp := Lib.hid (HHf.out.addRow ee hown); clear HHf hown ee; go_wp2_with fail; generalize hwA : World.alloc Wp _ = Wb; have HHb := Lib.hid (HHp.out.allocE hwA); clear hwA HHp; refine (join_any Wb _ 2 2 [⟨AJ, PH.length, cJ, PH⟩, ⟨Ap, 8, cp, puts q 8⟩] rfl ((HHb.out.boxRd 0 rfl).m0) (fun x hx => by simp only [List.mem_cons, List.not_mem_nil, or_false] at hx; rcases hx with rfl | rfl; exact ⟨rfl, (HHb.out.rowRd 2 rfl).m0⟩; exact ⟨by rw [puts_length], (HHb.out.rowRd 1 rfl).m0⟩) (by decide) (by simp [catL, puts_length, HL.out])).mono ?_; rintro e Wz ⟨v, rfl, hown, ee⟩; have HHz := Lib.hid (HHb.out.addRow ee hown); clear HHb hown ee; go_wp2_with fail; go_ret2; exact ⟨_, _, by rw [HV.out]; rfl, by rw [HV.out, if_pos rfl, HP.out, ← hpq.out]; have h := HHz.out.rowAt 0 rfl; simpa [catL] using h, HHz.out.ext⟩
    · go_simp
      generalize hwA : World.alloc _ _ = W1
      have HH1 := Lib.hid (HH0.out.allocRow hwA (n := m) (size := 1) (by simp [bytes]) (by simp only [maxLen]; omega))
      clear hwA HH0
      refine hK.out _ _ trivial (fun hHeld => ?_)
      clear hK K
      (try simp only [Act.put, lyA, lyB, lyC])
      refine oS 2 (fun K hK => ?_)
      go_simp
      refine (put_any (n : Int) _ 2 (by decide) rfl W1 (by omega) (by omega)).mono ?_
      rintro e W2 ⟨v, rfl, hown, ee⟩
      obtain ⟨AP, cP, rfl, _, _, _⟩ := own_form hown
      have HH2 := Lib.hid (HH1.out.addRow ee hown)
      clear HH1 hown ee
      go_wp2_with fail
      refine hK.out _ _ trivial (fun hHeld => ?_)
      clear hK K
      (try simp only [Act.put, lyA, lyB, lyC])
      refine oS 4 (fun K hK => ?_)
      go_simp
      refine (put_any next _ 2 (by decide) rfl W2 (by omega) (by omega)).mono ?_
      rintro e W3 ⟨v, rfl, hown, ee⟩
      obtain ⟨AN, cN, rfl, _, _, _⟩ := own_form hown
      have HH3 := Lib.hid (HH2.out.addRow ee hown)
      clear HH2 hown ee
      go_wp2_with fail
      refine hK.out _ _ trivial (fun hHeld => ?_)
      clear hK K
      (try simp only [Act.put, lyA, lyB, lyC])
      refine oS 10 (fun K hK => ?_)
      go_simp; generalize hwA : World.alloc _ _ = W4; have HH4 := Lib.hid ((HH3).out.allocE hwA); clear hwA HH3
      refine hK.out _ _ trivial (fun hHeld => ?_)
      clear hK K
      (try simp only [Act.put, lyA, lyB, lyC])
      refine oS 11 (fun K hK => ?_)
      go_simp
      refine (join_any W4 _ 4 4 [⟨AP, 2, cP, puts (n : Int) 2⟩, ⟨AN, 2, cN, puts next 2⟩, ⟨A, n, c, b⟩, ⟨some ⟨W0.heap.size, 0, none⟩, m, m, List.replicate m 0⟩] rfl ((HH4.out.boxRd 0 rfl).m0) (fun x hx => by
            simp only [List.mem_cons, List.not_mem_nil, or_false] at hx
            rcases hx with rfl | rfl | rfl | rfl
            · exact ⟨(by rw [puts_length]), (HH4.out.rowRd 2 rfl).m0⟩
            · exact ⟨(by rw [puts_length]), (HH4.out.rowRd 1 rfl).m0⟩
            · exact ⟨Hn.out, HH4.out.old HB.out⟩
            · exact ⟨(by simp), (HH4.out.rowRd 3 rfl).m0⟩) (by decide) (Nat.le_trans (Nat.le_of_eq (congrArg List.length (show _ = PH from HJ.out.symm))) (by rw [HL.out]; decide))).mono ?_
      rintro e Wj ⟨v, rfl, hown, ee⟩
      have hown2 : Wj.ownsRow W4.heap.size 5 1 v PH.length (bytes PH) := by rw [HJ.out]; exact hown
      clear hown
      obtain ⟨AJ, cJ, rfl, _, _, _⟩ := own_form hown2
      have HHj := Lib.hid (HH4.out.addRow ee hown2)
      clear HH4 hown2 ee
      go_wp2_with fail
      refine hK.out _ _ trivial (fun hHeld => ?_)
      clear hK K
      (try simp only [Act.put, lyA, lyB, lyC])
      refine tS 12 ?_; (try simp only [Act.put, lyA, lyB, lyC])
      refine wpAnyH_done (by kernel_rfl) ?_ _
      have HH := Lib.hid (HHj.out.only 0 rfl)
      clear HHj
      have HOf := Lib.hid (fof_any Wj AJ PH.length cJ PH rfl ((HH.out.rowRd 0 rfl).m0) (own_form2 (HH.out.rowAt 0 rfl)).1 (by rw [HL.out]; decide)); generalize hsF : feed Su.zero PH = sF at *; clear hsF; obtain ⟨sa, sb, sc, sd⟩ := sF; simp only [Su.cells] at HOf HP; go_wp2_with fail; refine HOf.out.mono ?_; rintro e Wf ⟨rfl, ef⟩; have HHf := Lib.hid (HH.out.later ef); clear HH ef HOf; have hfld := field_sum sa sb sc sd; have hwf := int_wf (wrap64_wf sa); have hpq := Lib.hid (puts_w64 sa); go_wp2_with fail; generalize wrap64 sa = q at *; refine (put_any q _ 8 (by decide) rfl Wf hwf.1 hwf.2).mono ?_; rintro e Wp ⟨v, rfl, hown, ee⟩; obtain ⟨Ap, cp, rfl, _, _, _⟩ := own_form hown; have HHp := Lib.hid (HHf.out.addRow ee hown); clear HHf hown ee; go_wp2_with fail; generalize hwA : World.alloc Wp _ = Wb; have HHb := Lib.hid (HHp.out.allocE hwA); clear hwA HHp; refine (join_any Wb _ 2 2 [⟨AJ, PH.length, cJ, PH⟩, ⟨Ap, 8, cp, puts q 8⟩] rfl ((HHb.out.boxRd 0 rfl).m0) (fun x hx => by simp only [List.mem_cons, List.not_mem_nil, or_false] at hx; rcases hx with rfl | rfl; exact ⟨rfl, (HHb.out.rowRd 2 rfl).m0⟩; exact ⟨by rw [puts_length], (HHb.out.rowRd 1 rfl).m0⟩) (by decide) (by simp [catL, puts_length, HL.out])).mono ?_; rintro e Wz ⟨v, rfl, hown, ee⟩; have HHz := Lib.hid (HHb.out.addRow ee hown); clear HHb hown ee; go_wp2_with fail; go_ret2; exact ⟨_, _, by rw [HV.out]; rfl, by rw [HV.out, if_pos rfl, HP.out, ← hpq.out]; have h := HHz.out.rowAt 0 rfl; simpa [catL] using h, HHz.out.ext⟩
end Go.Proofs.YtfongpdeflfioaaGreat
/- Texts as octets and back, in plain Lean: no program is in sight. -/
namespace Go.Proofs.YtfongpdeflfioaaGreat
def rl : Nat → List UInt8 → List ByteArray → Int × List ByteArray
  | 0, b, out => if 0 < b.length then (9, []) else (0, out)
  | n + 1, b, out => if b.length < 3 then (8, []) else if 65536 < val (b.take 3) then (5, []) else if (b.drop 3).length < val (b.take 3) then (8, []) else
      rl n ((b.drop 3).drop (val (b.take 3))) (out ++ [⟨((b.drop 3).take (val (b.take 3))).toArray⟩])
def rd (b : List UInt8) : Int × List ByteArray := if b.length < 2 then (8, []) else if 1024 < val (b.take 2) then (3, []) else rl (val (b.take 2)) (b.drop 2) []
theorem val_puts_small (n m : Nat) (h : n < 256 ^ m) : val (puts n m) = n := by
  have h1 := val_puts n m
  have h2 : ((n : Int) % (256 : Int) ^ m) = ((n % 256 ^ m : Nat) : Int) := by simp
  rw [h2, Nat.mod_eq_of_lt h] at h1
  omega
theorem bt_nat (a : Nat) (c : UInt8) : bt ((a * 256 + c.toNat : Nat) : Int) 0 = c := by
  have h := bt_zero ((a * 256 + c.toNat : Nat) : Int)
  have hc : c.toNat < 256 := c.toNat_lt
  apply UInt8.toNat_inj.1
  omega
theorem puts_val (l : List UInt8) : puts (val l) l.length = l := by
  suffices h : ∀ (n : Nat) (l : List UInt8), l.length = n → puts (val l) n = l from h _ l rfl
  intro n
  induction n with
  | zero =>
    intro l hl
    rw [List.eq_nil_of_length_eq_zero hl]
    rfl
  | succ n ih =>
    intro l hl
    have hne : l ≠ [] := fun e => by rw [e] at hl; cases hl
    obtain ⟨l', c, rfl⟩ : ∃ l' c, l = l' ++ [c] := ⟨l.dropLast, l.getLast hne, (List.dropLast_concat_getLast hne).symm⟩
    have hl' : l'.length = n := by simpa using hl
    rw [puts_succ, val_snoc, bt_nat]
    congr 1
    have hc : c.toNat < 256 := c.toNat_lt
    have : (((val l' * 256 + c.toNat : Nat) : Int) / 256) = (val l' : Int) := by omega
    rw [this]
    exact ih l' hl'
theorem flat_one (s : ByteArray) (hs : s.size ≤ 65536) (r : List UInt8) : val ((one s ++ r).take 3) = s.size ∧ (one s ++ r).drop 3 = s.data.toList ++ r := by
  have h3 : (puts s.size 3).length = 3 := puts_length _ _
  constructor
  · rw [one, List.append_assoc, List.take_append_of_le_length (by omega), List.take_of_length_le (by omega)]
    exact val_puts_small _ _ (by omega)
  · rw [one, List.append_assoc, List.drop_append_of_le_length (by omega), List.drop_of_length_le (by omega)]
    rfl
theorem one_len (s : ByteArray) : (one s).length = 3 + s.size := by rw [one, List.length_append, puts_length, len_data]
theorem rl_flat (l : List ByteArray) (hl : ∀ s ∈ l, s.size ≤ 65536) (r : List UInt8) (out : List ByteArray) : rl l.length (l.flatMap one ++ r) out = if 0 < r.length then (9, []) else (0, out ++ l) := by
  induction l generalizing out with
  | nil => simp [rl]
  | cons s l ih =>
    have hs := hl s (by simp)
    obtain ⟨h1, h2⟩ := flat_one s hs (l.flatMap one ++ r)
    rw [List.flatMap_cons, List.append_assoc, List.length_cons, rl, h1, h2]
    have hn : ¬ (one s ++ (l.flatMap one ++ r)).length < 3 := by rw [List.length_append, one_len]; omega
    have hd : ¬ (s.data.toList ++ (l.flatMap one ++ r)).length < s.size := by rw [List.length_append, len_data]; omega
    rw [if_neg hn, if_neg (by omega), if_neg hd]
    have e1 : (s.data.toList ++ (l.flatMap one ++ r)).drop s.size = l.flatMap one ++ r := by rw [List.drop_append_of_le_length (by rw [len_data]; omega), List.drop_of_length_le (by rw [len_data]; omega)]; rfl
    have e2 : (s.data.toList ++ (l.flatMap one ++ r)).take s.size = s.data.toList := by rw [List.take_append_of_le_length (by rw [len_data]; omega), List.take_of_length_le (by rw [len_data]; omega)]
    rw [e1, e2, ih (fun s h => hl s (by simp [h]))]
    have e3 : (⟨s.data.toList.toArray⟩ : ByteArray) = s := by simp
    rw [e3, List.append_assoc]
    rfl
theorem rl_cut (l : List ByteArray) (hl : ∀ s ∈ l, s.size ≤ 65536) (k : Nat) (hk : k < (l.flatMap one).length) (out : List ByteArray) : rl l.length ((l.flatMap one).take k) out = (8, []) := by
  induction l generalizing k out with
  | nil => simp at hk
  | cons s l ih =>
    have hs := hl s (by simp)
    rw [List.flatMap_cons, List.length_append, one_len] at hk
    rw [List.flatMap_cons, List.length_cons, rl]
    by_cases h3 : k < 3
    · rw [if_pos (by rw [List.length_take]; omega)]
    · have hlen : ((one s ++ l.flatMap one).take k).length = k := by rw [List.length_take, List.length_append, one_len]; omega
      obtain ⟨h1, h2⟩ := flat_one s hs (l.flatMap one)
      have e1 : ((one s ++ l.flatMap one).take k).take 3 = (one s ++ l.flatMap one).take 3 := by rw [List.take_take, Nat.min_eq_left (by omega)]
      have e2 : ((one s ++ l.flatMap one).take k).drop 3 = (s.data.toList ++ l.flatMap one).take (k - 3) := by rw [List.drop_take, h2]
      rw [if_neg (by omega), e1, h1, if_neg (by omega), e2]
      by_cases h4 : k - 3 < s.size
      · rw [if_pos (by rw [List.length_take]; omega)]
      · have hl2 : ((s.data.toList ++ l.flatMap one).take (k - 3)).length = k - 3 := by rw [List.length_take, List.length_append, len_data]; omega
        rw [if_neg (by omega)]
        have e3 : ((s.data.toList ++ l.flatMap one).take (k - 3)).drop s.size = (l.flatMap one).take (k - 3 - s.size) := by
          rw [List.drop_take, List.drop_append_of_le_length (by rw [len_data]; omega), List.drop_of_length_le (by rw [len_data]; omega)]
          rfl
        rw [e3]
        exact ih (fun s h => hl s (by simp [h])) _ (by omega) _
theorem rl_back (n : Nat) (b : List UInt8) (out m : List ByteArray) (h : rl n b out = (0, m)) : ∃ ms : List ByteArray, m = out ++ ms ∧ ms.length = n ∧ b = ms.flatMap one ∧ ∀ s ∈ ms, s.size ≤ 65536 := by
  induction n generalizing b out with
  | zero =>
    unfold rl at h
    by_cases hb : 0 < b.length
    · rw [if_pos hb] at h
      cases h
    · rw [if_neg hb] at h
      cases h
      exact ⟨[], by simp, rfl, by simpa using hb, by simp⟩
  | succ n ih =>
    unfold rl at h
    by_cases h3 : b.length < 3
    · rw [if_pos h3] at h; cases h
    · rw [if_neg h3] at h
      by_cases h4 : 65536 < val (b.take 3)
      · rw [if_pos h4] at h; cases h
      · rw [if_neg h4] at h
        by_cases h5 : (b.drop 3).length < val (b.take 3)
        · rw [if_pos h5] at h; cases h
        · rw [if_neg h5] at h
          obtain ⟨ms, e1, e2, e3, e4⟩ := ih _ _ h
          have hsz : (⟨((b.drop 3).take (val (b.take 3))).toArray⟩ : ByteArray).size = val (b.take 3) := by
            show ((b.drop 3).take (val (b.take 3))).toArray.size = _
            rw [List.size_toArray, List.length_take]
            omega
          refine ⟨⟨((b.drop 3).take (val (b.take 3))).toArray⟩ :: ms, by rw [e1]; simp, by simp [e2], ?_, ?_⟩
          · rw [List.flatMap_cons, ← e3, one, hsz]
            have h6 : puts (val (b.take 3)) 3 = b.take 3 := by
              have := puts_val (b.take 3)
              rwa [show (b.take 3).length = 3 from by rw [List.length_take]; omega] at this
            rw [h6]
            show b = b.take 3 ++ (b.drop 3).take (val (b.take 3)) ++ (b.drop 3).drop (val (b.take 3))
            rw [List.append_assoc, List.take_append_drop, List.take_append_drop]
          · intro s hs
            rcases List.mem_cons.1 hs with rfl | hs
            · rw [hsz]; omega
            · exact e4 s hs
theorem rl_none (n : Nat) (b : List UInt8) (out : List ByteArray) (h : (rl n b out).1 ≠ 0) : (rl n b out).2 = [] := by
  induction n generalizing b out with
  | zero =>
    rw [rl] at h ⊢
    by_cases hb : 0 < b.length
    · rw [if_pos hb]
    · rw [if_neg hb] at h
      exact absurd rfl h
  | succ n ih =>
    rw [rl] at h ⊢
    by_cases h3 : b.length < 3
    · rw [if_pos h3]
    · rw [if_neg h3] at h ⊢
      by_cases h4 : 65536 < val (b.take 3)
      · rw [if_pos h4]
      · rw [if_neg h4] at h ⊢
        by_cases h5 : (b.drop 3).length < val (b.take 3)
        · rw [if_pos h5]
        · rw [if_neg h5] at h ⊢
          exact ih _ _ h
theorem any_long (l : List ByteArray) : l.any longB = false ↔ ∀ s ∈ l, s.size ≤ 65536 := by
  rw [List.any_eq_false]
  constructor
  · intro h s hs
    have := h s hs
    simp only [longB, decide_eq_true_eq] at this
    omega
  · intro h s hs
    have := h s hs
    simp only [longB, decide_eq_true_eq]
    omega
theorem wE_zero (l : List ByteArray) : wE l = 0 ↔ l.length ≤ 1024 ∧ ∀ s ∈ l, s.size ≤ 65536 := by
  rw [← any_long, wE]
  by_cases h1 : 1024 < l.length
  · rw [if_pos h1]
    constructor
    · intro h; omega
    · intro h; omega
  · rw [if_neg h1]
    cases h2 : l.any longB
    · simp; omega
    · simp
theorem flat_head (l : List ByteArray) (hl : l.length ≤ 1024) (r : List UInt8) : ¬ (flat l ++ r).length < 2 ∧ val ((flat l ++ r).take 2) = l.length ∧ (flat l ++ r).drop 2 = l.flatMap one ++ r := by
  have h2 : (puts l.length 2).length = 2 := puts_length _ _
  refine ⟨?_, ?_, ?_⟩
  · rw [flat, List.length_append, List.length_append]; omega
  · rw [flat, List.append_assoc, List.take_append_of_le_length (by omega), List.take_of_length_le (by omega)]
    exact val_puts_small _ _ (by omega)
  · rw [flat, List.append_assoc, List.drop_append_of_le_length (by omega), List.drop_of_length_le (by omega)]
    rfl
theorem rdw_flat (l : List ByteArray) (h : wE l = 0) (r : List UInt8) : rd (wB l ++ r) = if 0 < r.length then (9, []) else (0, l) := by
  obtain ⟨h1, h2⟩ := (wE_zero l).1 h
  obtain ⟨a, b, c⟩ := flat_head l h1 r
  rw [wB, if_pos h, rd, if_neg a, b, c, if_neg (by omega), rl_flat l h2 r []]
  rfl
theorem rd_cut (l : List ByteArray) (h : wE l = 0) (k : Nat) (hk : k < (wB l).length) : rd ((wB l).take k) = (8, []) := by
  obtain ⟨h1, h2⟩ := (wE_zero l).1 h
  obtain ⟨a, b, c⟩ := flat_head l h1 []
  rw [List.append_nil] at a b c
  rw [wB, if_pos h] at hk ⊢
  rw [rd]
  by_cases h3 : k < 2
  · rw [if_pos (by rw [List.length_take]; omega)]
  · rw [if_neg (by rw [List.length_take]; omega), List.take_take, Nat.min_eq_left (by omega), b, if_neg (by omega), List.drop_take, c, List.append_nil]
    refine rl_cut l h2 _ ?_ []
    have : (flat l).length = 2 + (l.flatMap one).length := by rw [flat, List.length_append, puts_length]
    omega
theorem rd_back (b : List UInt8) (m : List ByteArray) (h : rd b = (0, m)) : wE m = 0 ∧ wB m = b := by
  unfold rd at h
  by_cases h2 : b.length < 2
  · rw [if_pos h2] at h; cases h
  · rw [if_neg h2] at h
    by_cases h3 : 1024 < val (b.take 2)
    · rw [if_pos h3] at h; cases h
    · rw [if_neg h3] at h
      obtain ⟨ms, e1, e2, e3, e4⟩ := rl_back _ _ _ _ h
      rw [List.nil_append] at e1
      subst e1
      have hw : wE m = 0 := (wE_zero m).2 ⟨by omega, e4⟩
      refine ⟨hw, ?_⟩
      rw [wB, if_pos hw, flat, ← e3, e2]
      have h6 : puts (val (b.take 2)) 2 = b.take 2 := by
        have := puts_val (b.take 2)
        rwa [show (b.take 2).length = 2 from by rw [List.length_take]; omega] at this
      rw [h6, List.take_append_drop]
theorem rd_none (b : List UInt8) (h : (rd b).1 ≠ 0) : (rd b).2 = [] := by
  rw [rd] at h ⊢
  by_cases h2 : b.length < 2
  · rw [if_pos h2]
  · rw [if_neg h2] at h ⊢
    by_cases h3 : 1024 < val (b.take 2)
    · rw [if_pos h3]
    · rw [if_neg h3] at h ⊢
      exact rl_none _ _ _ h
end Go.Proofs.YtfongpdeflfioaaGreat
/- The walks of slices.Clone over octets, octets.Cut, fields.taken, fields.Read. -/
namespace Go.Proofs.YtfongpdeflfioaaGreat
open Go.RowKit
theorem list_app_wide {P : Program} (w : World) {ops : Array Oper} {rest : List Oper} {o : Oper} {a : Act} {Q : Exit → Act → World → Prop} (hgd : o.guard = none) (s x : Operand) (t : TypeId)
    (ho : o.op = .call { callee := .builtin .append, args := #[s, x], argTypes := #[t, t] })
    (e : TypeId) (i : TypeInfo) (z : Value) (size bytes : Nat) (ht : P.underlying t = some (.slice e)) (hi : P.info? e = some i) (hz : i.zero = some z)
    (hsize : i.size = size) (hby : i.bytes = bytes) (hzs : z.cells.size = size) (hsz : 0 < size)
    (base : Nat) (v : Value) (n : Nat) (xs : List Value) (hs : a.eval s = v) (hown : w.ownsRow base e size v n xs) (lo h' : Nat) (A : Option Addr) (m c : Nat) (news : List Value) (hx : a.eval x = .slice A m c) (hl : news.length = m * size) (hr : Rd w lo h' A news) (h1 : ∀ u ∈ news, u.oneCell' = true)
    (h63 : n + m ≤ maxLen) (hbytes : ((n + m) + (n + m) / 4 + 192) * bytes ≤ 281474976710656) (hn : n * bytes ≤ 140737488355328) (hbase : base ≤ w.heap.size)
    (h : ∀ v' w', w'.ownsRow base e size v' (n + m) (xs ++ news) → (∀ b, Ext b w → b.heap.size ≤ base → Ext b w') → w.grownBy w' v.ownBlock → wpList P ops Q rest (a.put o.dst v') w') : wpList P ops Q (o :: rest) a w := by
  cases A with
  | none =>
    have hm : m = 0 := by
      rcases Nat.eq_zero_or_pos m with h0 | h0
      · exact h0
      · obtain ⟨b, o, h, _⟩ := hr (fun e => by have := Nat.mul_pos h0 hsz; simp [e] at hl; omega)
        cases h
    subst hm
    exact list_app w hgd s x t ho e i z size bytes ht hi hz hsize hby hzs hsz base v n xs hs hown lo h' none 0 c news hx hl hr h1 h63 hn hbase fun v' w' a1 a2 _ a3 => h v' w' a1 a2 a3
  | some ad =>
    have hcells : ∀ j u, news[j]? = some u → w.cell? (ad.add j) = some u := by
      intro j u hu
      obtain ⟨b, o, h, _, _, hc⟩ := hr (fun e => by simp [e] at hu)
      injection h with h
      subst h
      rw [add_lit]
      exact hc j u hu
    exact Go.wpList_append_own_wide w hgd s x t ho base e i z size bytes ht hi hz hsize hby hzs hsz v n xs hs hown ad m c news hx hl hcells h1 h63 hbytes hbase
      fun v' w' h2 h3 _ => h v' w' h2 (fun _ hb hle => ext_grown hb hown h3 hle) h3
set_option maxRecDepth 100000 in
set_option maxHeartbeats 400000 in
theorem cloneb_any (w : World) (base : Nat) (hbase : base ≤ w.heap.size) (A : Option Addr) (n c : Nat) (l : List UInt8) (hn : n = l.length) (hr : Rd w 0 w.heap.size A (bytes l)) (hb : n ≤ 150000000000000) :
    Calls Tryz.prog 56 #[.slice A n c] w fun e w' => ∃ v, e = .returned v ∧ w'.ownsRow base 5 1 v n (bytes l) ∧ Ext w w' := by
  have qT : ∀ (w : World) (a : Option Addr) (n c n' c' : Nat), (binOp .eql 33 (.slice a n c) (.slice none n' c')).run Tryz.prog w = .ok (.bool a.isNone) w := fun w a n c n' c' => Lib.run_eql_slice_nil w _ _ a n c n' c' Tryz.underlying33
  obtain ⟨i0, hi0, hz0, hz1, hz2⟩ := info_parts info5
  have hmx : n ≤ maxLen := by simp only [maxLen]; omega
  have hl : (bytes l).length = n * 1 := by rw [bytes_length, hn, Nat.mul_one]
  have Hn := Lib.hid hn
  clear hn
  cases A with
  | none =>
    have : n = 0 := by
      rcases Nat.eq_zero_or_pos n with h | h
      · exact h
      · obtain ⟨b, o, hh, _⟩ := hr (fun e => by rw [e] at hl; simp at hl; omega)
        cases hh
    subst this
    have : bytes l = [] := List.eq_nil_of_length_eq_zero (by simpa using hl)
    rw [this]
    clear hl
    go_enter Tryz.func56, Tryz.ntmps56
    go_wp2
    go_ret
    exact ⟨_, rfl, World.ownsRow_nil _ _ _ _, Ext.refl _⟩
  | some ad =>
    go_enter Tryz.func56, Tryz.ntmps56
    go_wp2_with
      (at_builtin
       refine list_app_wide _ rfl (.tmp 5) (.tmp 6) _ rfl 5 i0 _ 1 1 Tryz.underlying33 hi0 hz0 hz1 hz2 rfl (by omega) base (.slice (some ⟨w.heap.size, 0, none⟩) 0 0) 0 [] rfl
         (World.ownsRow_lit w #[] 0 hbase (Nat.zero_le _) rfl) 0 w.heap.size (some ad) n c (bytes l) rfl hl (hr.alloc (Nat.le_refl _) _) (bytes_one _) (by simpa using hmx) (by omega) (by omega) (by simp; omega) ?_
       intro v1 w1 hown1 he1 hg1)
    go_ret
    refine ⟨v1, rfl, by simpa using hown1, below_grown ((Below.refl _ _).alloc (Nat.le_refl _) _) hg1 (by simp) (.inr ⟨_, rfl, Nat.le_refl _⟩)⟩
def CutOk (l : List UInt8) (k : Nat) (w : World) (e : Ending) (w' : World) : Prop :=
  ∃ v1 v2, e = .returned (.tuple #[v1, v2, .int .i64 (if l.length < k then 8 else 0)]) ∧
    w'.ownsRow w.heap.size 5 1 v1 (if l.length < k then 0 else k) (bytes (if l.length < k then [] else l.take k)) ∧
    w'.ownsRow w.heap.size 5 1 v2 (if l.length < k then 0 else l.length - k) (bytes (if l.length < k then [] else l.drop k)) ∧ Ext w w'
set_option maxRecDepth 100000 in
set_option maxHeartbeats 1000000 in
theorem cut_any (w : World) (A : Option Addr) (n c : Nat) (l : List UInt8) (hn : n = l.length) (hnc : n ≤ c) (hr : Rd w 0 w.heap.size A (bytes l)) (hb : n ≤ 150000000000000) (hc : c ≤ 9223372036854775807) (k : Nat) (K : Int) (hK : K = (k : Int)) :
    Calls Tryz.prog 147 #[.slice A n c, .int .i64 K] w (CutOk l k w) := by
  subst hK
  obtain ⟨i0, hi0, hz0, hz1, hz2⟩ := info_parts info5
  have hlen : (bytes l).length = n * 1 := by rw [bytes_length, hn, Nat.mul_one]
  have Hn := Lib.hid hn
  by_cases hk : n < k
  · have hif : l.length < k := by omega
    have HI := Lib.hid hif
    clear hn hif hlen
    go_enter Tryz.func147, Tryz.ntmps147
    go_wp2_with fail
    refine bodyPost_ret (results_tmp3 rfl _ _ _) rfl ?_
    refine ⟨_, _, by rw [if_pos HI.out]; rfl, ?_, ?_, Ext.refl _⟩
    · rw [if_pos HI.out, if_pos HI.out]
      exact World.ownsRow_nil _ _ _ _
    · rw [if_pos HI.out, if_pos HI.out]
      exact World.ownsRow_nil _ _ _ _
  · have hif : ¬ l.length < k := by omega
    have HI := Lib.hid hif
    have hsl : ∀ W, (Instr.slice 33 (.slice A n c) (some (.int .i64 (k : Int))) none none).run Tryz.prog W = .ok (.slice (shiftA A c k 1) (n - k) (c - k)) W := fun W => run_slice_from W 33 5 i0 1 Tryz.underlying33 hi0 hz1 A n c k _ rfl (by omega)
    have h2 : Rd w 0 w.heap.size (shiftA A c k 1) (bytes (l.drop k)) := by
      have := hr.from_ hlen (k := k) (by omega) hnc
      rwa [Nat.mul_one, bytes_drop] at this
    have h1 : Rd w 0 w.heap.size A (bytes (l.take k)) := by
      have := hr.take k
      rwa [bytes_take] at this
    have HL1 : Hid (k = (l.take k).length) := by rw [Hid, List.length_take]; omega
    have HL2 : Hid (n - k = (l.drop k).length) := by rw [Hid, List.length_drop]; omega
    clear hn hif hlen
    go_enter Tryz.func147, Tryz.ntmps147
    go_wp2_with fail
    have b1 : (0 : Int) ≤ (k : Int) := by omega
    have b2 : (k : Int) ≤ (c : Int) := by omega
    have b3 : (k : Int) ≤ (n : Int) := by omega
    go_region_held3 (fun w' => Ext w w') (first | exact blo | (trace_state; fail))
      (first
        | (go_at_call 56
           ((with_reducible refine (cloneb_any _ w.heap.size (Ext.size (by exact blo)) A k c (l.take k) HL1.out (h1.at (by exact blo) (Nat.le_refl _)) (by omega)).mono ?_)
            rintro e w2 ⟨v2, rfl, hown2, e2⟩))
        | (go_at_call 56
           ((with_reducible refine (cloneb_any _ w.heap.size (Ext.size (by exact blo)) (shiftA A c k 1) (n - k) (c - k) (l.drop k) HL2.out (h2.at (by exact blo) (Nat.le_refl _)) (by omega)).mono ?_)
            rintro e w3 ⟨v3, rfl, hown3, e3⟩)))
    clear hsl
    go_wp2_with fail
    refine bodyPost_ret (results_tmp3 rfl _ _ _) rfl ?_
    refine ⟨v2, v3, by rw [if_neg HI.out]; rfl, ?_, ?_, by exact blo⟩
    · rw [if_neg HI.out, if_neg HI.out]
      exact own_ext hown2 e3
    · rw [if_neg HI.out, if_neg HI.out, ← Hn.out]
      exact hown3
def TakenOk (l : List UInt8) (w : World) (e : Ending) (w' : World) : Prop :=
  ∃ v, e = .returned (.tuple #[.int .i64 (if l.length < 2 then 0 else val (l.take 2)), v, .int .i64 (if l.length < 2 then 8 else 0)]) ∧
    w'.ownsRow w.heap.size 5 1 v (if l.length < 2 then 0 else l.length - 2) (bytes (if l.length < 2 then [] else l.drop 2)) ∧ Ext w w'
theorem two_small (l : List UInt8) (h : ¬ l.length < 2) : numV (l.take 2) = val (l.take 2) ∧ numE (l.take 2) = 0 := by
  have h1 : (l.take 2).length = 2 := by rw [List.length_take]; omega
  have h2 := val_lt (l.take 2)
  rw [h1] at h2
  rw [numV, numE, h1, if_neg (by omega), if_neg (by omega), if_neg (by omega), if_neg (by omega), if_neg (by omega), if_neg (by omega)]
  exact ⟨rfl, rfl⟩
theorem three_small (l : List UInt8) (h : ¬ l.length < 3) : numV (l.take 3) = val (l.take 3) ∧ numE (l.take 3) = 0 ∧ val (l.take 3) < 16777216 := by
  have h1 : (l.take 3).length = 3 := by rw [List.length_take]; omega
  have h2 := val_lt (l.take 3)
  rw [h1] at h2
  rw [numV, numE, h1, if_neg (by omega), if_neg (by omega), if_neg (by omega), if_neg (by omega), if_neg (by omega), if_neg (by omega)]
  exact ⟨rfl, rfl, h2⟩
set_option maxRecDepth 100000 in
set_option maxHeartbeats 1000000 in
theorem taken_any (w : World) (A : Option Addr) (n c : Nat) (l : List UInt8) (hn : n = l.length) (hnc : n ≤ c) (hr : Rd w 0 w.heap.size A (bytes l)) (hb : n ≤ 150000000000000) (hc : c ≤ 9223372036854775807) :
    Calls Tryz.prog 133 #[.slice A n c, .int .i64 2] w (TakenOk l w) := by
  have Hn := Lib.hid hn
  by_cases h2 : l.length < 2
  · have HI := Lib.hid h2
    clear h2 hn
    go_enter Tryz.func133, Tryz.ntmps133
    go_wp2_with fail
    refine (cut_any w A n c l Hn.out hnc hr hb hc 2 2 rfl).mono ?_
    rintro e w2 ⟨v1, v2, rfl, hown1, hown2, e2⟩
    rw [if_pos HI.out]
    clear hown1 hown2
    go_wp2_with fail
    refine bodyPost_ret (results_tmp3 rfl _ _ _) rfl ?_
    exact ⟨_, by rw [if_pos HI.out, if_pos HI.out]; rfl, by rw [if_pos HI.out, if_pos HI.out]; exact World.ownsRow_nil _ _ _ _, e2⟩
  · obtain ⟨x1, x2⟩ := two_small l h2
    have X := Lib.hid x1
    have Y := Lib.hid x2
    have HI := Lib.hid h2
    have HL : Hid (2 = (l.take 2).length) := by rw [Hid, List.length_take]; omega
    clear h2 hn x1 x2
    go_enter Tryz.func133, Tryz.ntmps133
    go_wp2_with fail
    refine (cut_any w A n c l Hn.out hnc hr hb hc 2 2 rfl).mono ?_
    rintro e w2 ⟨v1, v2, rfl, hown1, hown2, e2⟩
    rw [if_neg HI.out] at hown1 hown2 ⊢
    rw [if_neg HI.out] at hown1 hown2
    obtain ⟨A1, c1, rfl, _, _, _⟩ := own_form hown1
    go_wp2_with fail
    refine (number_any w2 A1 2 c1 _ _ (l.take 2) HL.out (by omega) (Rd.of_own hown1) (Nat.le_refl _)).mono ?_
    rintro e w3 ⟨rfl, e3⟩
    rw [X.out, Y.out]
    go_wp2_with fail
    refine bodyPost_ret (results_tmp3 rfl _ _ _) rfl ?_
    exact ⟨v2, by rw [if_neg HI.out, if_neg HI.out]; rfl, by rw [if_neg HI.out, if_neg HI.out]; exact own_ext hown2 e3, by exact blo⟩
def ReadOk (l : List UInt8) (w : World) (e : Ending) (w' : World) : Prop :=
  ∃ v, e = .returned (.tuple #[v, .int .i64 (rd l).1]) ∧ w'.ownsRow w.heap.size 9 1 v (rd l).2.length ((rd l).2.map Value.string) ∧ Ext w w'
theorem read_fail {l : List UInt8} {w w' : World} {r : Int} (h : rd l = (r, [])) (he : Ext w w') : ReadOk l w (.returned (.tuple #[.slice none 0 0, .int .i64 r])) w' :=
  ⟨_, by rw [h], by rw [h]; exact World.ownsRow_nil _ _ _ _, he⟩
set_option maxRecDepth 100000 in
set_option maxHeartbeats 2000000 in
theorem read_any (w : World) (A : Option Addr) (n c : Nat) (l : List UInt8) (hn : n = l.length) (hnc : n ≤ c) (hr : Rd w 0 w.heap.size A (bytes l)) (hb : n ≤ 150000000000000) (hc : c ≤ 9223372036854775807) :
    Calls Tryz.prog 105 #[.slice A n c] w (ReadOk l w) := by
  obtain ⟨i0, hi0, hz0, hz1, hz2⟩ := info_parts info9
  obtain ⟨j0, hj0, hy0, hy1, hy2⟩ := info_parts info5
  have Hn := Lib.hid hn
  by_cases h2 : l.length < 2
  · have HR : Hid (rd l = (8, [])) := by rw [Hid, rd, if_pos h2]
    have HI := Lib.hid h2
    clear h2 hn
    go_enter Tryz.func105, Tryz.ntmps105
    go_wp2_with fail
    refine (taken_any w A n c l Hn.out hnc hr hb hc).mono ?_
    rintro e w2 ⟨v, rfl, hown, e2⟩
    rw [if_pos HI.out, if_pos HI.out]
    clear hown
    go_wp2_with fail
    go_ret2
    exact read_fail HR.out e2
  · have HI := Lib.hid h2
    by_cases h3 : 1024 < val (l.take 2)
    · have HR : Hid (rd l = (3, [])) := by rw [Hid, rd, if_neg h2, if_pos h3]
      clear h2 hn
      go_enter Tryz.func105, Tryz.ntmps105
      go_wp2_with fail
      refine (taken_any w A n c l Hn.out hnc hr hb hc).mono ?_
      rintro e w2 ⟨v, rfl, hown, e2⟩
      rw [if_neg HI.out, if_neg HI.out]
      clear hown
      go_wp2_with fail
      go_ret2
      exact read_fail HR.out e2
    · have HR : Hid (rd l = rl (val (l.take 2)) (l.drop 2) []) := by rw [Hid, rd, if_neg h2, if_neg h3]
      have hdl : (l.drop 2).length ≤ 150000000000000 := by rw [List.length_drop]; omega
      clear h2 hn
      go_enter Tryz.func105, Tryz.ntmps105
      go_wp2_with fail
      refine (taken_any w A n c l Hn.out hnc hr hb hc).mono ?_
      rintro e w2 ⟨v, rfl, hown, e2⟩
      rw [if_neg HI.out, if_neg HI.out]
      rw [if_neg HI.out, if_neg HI.out, ← List.length_drop] at hown
      generalize val (l.take 2) = N at *
      generalize l.drop 2 = l2 at *
      obtain ⟨A2, c2, rfl, hc21, hc22, _⟩ := own_form hown
      have hrd2 := (Rd.of_own hown).m0
      simp only [maxLen] at hc22
      clear hown hr hnc hc hb
      go_wp2_with fail
      go_loopw [0, 6, 23] (fun b o i wr => ∃ (k : Nat) (rest : List UInt8) (out : List ByteArray) (A' : Option Addr) (c' : Nat), k ≤ N ∧ i = .int .i64 k ∧ b = .slice A' rest.length c' ∧ rest.length ≤ c' ∧ c' ≤ 9223372036854775807 ∧ rest.length ≤ 150000000000000 ∧ Rd w2 0 w2.heap.size A' (bytes rest) ∧
        out.length ≤ k ∧ wr.ownsRow w2.heap.size 9 1 o out.length (out.map Value.string) ∧ rl (N - k) rest out = rd l ∧ Ext w2 wr) (fun _ _ i _ => N - (intOf i).toNat)
      case atStart => exact ⟨0, l2, [], A2, c2, Nat.zero_le _, rfl, rfl, hc21, hc22, hdl, hrd2, Nat.le_refl _, World.ownsRow_nil _ _ _ _, HR.out.symm, Ext.refl _⟩
      case round =>
        clear hrd2 hc21 hc22 hdl
        obtain ⟨k, rest, out, A', c', hk, rfl, rfl, hrc, hc', hrl, hrd, hol, hown, hrun, e3⟩ := hrel
        by_cases hlt : k < N
        · have hNk : N - k = (N - (k + 1)) + 1 := by omega
          rw [hNk, rl] at hrun
          clear hNk
          by_cases r3 : rest.length < 3
          · rw [if_pos r3] at hrun
            have HRun := Lib.hid hrun.symm
            clear hrun
            go_wp2_with fail
            go_ret2
            exact read_fail HRun.out (e2.trans e3)
          · rw [if_neg r3] at hrun
            obtain ⟨t1, t2, t3⟩ := three_small rest r3
            have T1 := Lib.hid t1
            have T2 := Lib.hid t2
            have HRun := Lib.hid hrun
            have HL3 : Hid (3 = (rest.take 3).length) := by rw [Hid, List.length_take]; omega
            have hlen : (bytes rest).length = rest.length * 1 := by rw [bytes_length, Nat.mul_one]
            have hsl : ∀ W, (Instr.slice 33 (.slice A' rest.length c') (some (.int .i64 3)) none none).run Tryz.prog W = .ok (.slice (shiftA A' c' 3 1) (rest.length - 3) (c' - 3)) W := fun W => run_slice_from W 33 5 j0 1 Tryz.underlying33 hj0 hy1 A' _ c' 3 _ rfl (by omega)
            have hrd3 : Rd w2 0 w2.heap.size (shiftA A' c' 3 1) (bytes (rest.drop 3)) := by
              have := hrd.from_ hlen (k := 3) (by omega) hrc
              rwa [Nat.mul_one, bytes_drop] at this
            have hrt : Rd w2 0 w2.heap.size A' (bytes (rest.take 3)) := by
              have := hrd.take 3
              rwa [bytes_take] at this
            have hd3 : Hid ((rest.drop 3).length = rest.length - 3) := by rw [Hid, List.length_drop]
            clear hrun t1 t2 hlen hrd
            generalize val (rest.take 3) = q at *
            go_wp2_with fail
            refine (number_any wr A' 3 c' _ _ (rest.take 3) HL3.out (by omega) (hrt.ext e3 (Nat.le_refl _)) e3.size).mono ?_
            rintro e w4 ⟨rfl, e4⟩
            rw [T1.out, T2.out]
            have e5 : Ext w2 w4 := by exact blo
            by_cases r4 : 65536 < q
            · have HRes := Lib.hid (by have h := HRun.out; rw [if_pos r4] at h; exact h.symm : rd l = (5, []))
              go_wp2_with fail
              go_ret2
              exact read_fail HRes.out (e2.trans e5)
            · by_cases r5 : rest.length - 3 < q
              · have HRes := Lib.hid (by have h := HRun.out; rw [if_neg r4, if_pos (by rw [hd3.out]; exact r5)] at h; exact h.symm : rd l = (8, []))
                go_wp2_with fail
                go_ret2
                exact read_fail HRes.out (e2.trans e5)
              · have HRes := Lib.hid (by have h := HRun.out; rw [if_neg r4, if_neg (by rw [hd3.out]; exact r5)] at h; exact h)
                obtain ⟨S, hS⟩ : ∃ S : ByteArray, S = ⟨((rest.drop 3).take q).toArray⟩ := ⟨_, rfl⟩
                have hr4 := hrd3.ext e5 (Nat.le_refl _)
                have hcv : (convert 33 9 (.slice (shiftA A' c' 3 1) q (c' - 3))).run Tryz.prog w4 = .ok (.string S) w4 := by
                  rw [hS]
                  refine run_conv_str w4 _ _ 5 Tryz.underlying33 Tryz.underlying5 Tryz.underlying9 _ _ _ q _ ((rest.drop 3).take q) ?_ (by have := hr4.take q; rwa [bytes_take] at this)
                  rw [List.length_take, hd3.out]
                  omega
                have hslq : ∀ W, (Instr.slice 33 (.slice (shiftA A' c' 3 1) (rest.length - 3) (c' - 3)) (some (.int .i64 (q : Int))) none none).run Tryz.prog W = .ok (.slice (shiftA (shiftA A' c' 3 1) (c' - 3) q 1) (rest.length - 3 - q) (c' - 3 - q)) W := fun W => run_slice_from W 33 5 j0 1 Tryz.underlying33 hj0 hy1 _ _ _ q _ rfl (by omega)
                have hrq : Rd w2 0 w2.heap.size (shiftA (shiftA A' c' 3 1) (c' - 3) q 1) (bytes ((rest.drop 3).drop q)) := by
                  have := hrd3.from_ (n := rest.length - 3) (k := q) (c := c' - 3) (size := 1) (by rw [bytes_length, hd3.out, Nat.mul_one]) (by omega) (by omega)
                  rwa [Nat.mul_one, bytes_drop] at this
                have hrq4 := Lib.hid hrq
                have HSq := Lib.hid hS
                have own2 := own_ext hown e4
                have b1 : (q : Int) ≤ ((c' - 3 : Nat) : Int) := by omega
                have b2 : (0 : Int) ≤ (q : Int) := by omega
                have b3 : (q : Int) ≤ ((rest.length - 3 : Nat) : Int) := by omega
                have e6 : Ext w w4 := e2.trans e5
                clear hS hr4 hrq hrd3 hrt hown e3 e4
                go_wp2_with
                  (at_builtin
                   refine list_app _ rfl (.tmp 44) (.tmp 49) _ rfl 9 i0 _ 1 16 Tryz.underlying126 hi0 hz0 hz1 hz2 rfl (by omega) _ _ out.length _ rfl (own2.alloc _) 0 _ _ 1 1 [.string S] rfl rfl
                     ((rd_new _ _ _).m0) (by simp [Value.oneCell']) (by simp only [maxLen]; omega) (by omega) (by have := e5.size; simp; omega) ?_
                   intro v7 w7 hown7 he7 _ _
                   have e9 : Ext w2 w7 := he7 _ (e5.alloc _) (Nat.le_refl _)
                   clear he7 own2)
                go_roundw
                case rel =>
                  refine ⟨k + 1, (rest.drop 3).drop q, out ++ [S], _, c' - 3 - q, by omega, by go_num, by rw [List.length_drop, hd3.out], ?_, by omega, ?_, hrq4.out, ?_, ?_, ?_, e9⟩
                  · rw [List.length_drop, hd3.out]; omega
                  · rw [List.length_drop, hd3.out]; omega
                  · rw [List.length_append]; simp; omega
                  · rw [List.length_append, List.map_append]; exact hown7
                  · rw [HSq.out]; exact HRes.out
                case measure => simp [intOf]; omega
        · obtain rfl : k = N := by omega
          rw [Nat.sub_self, rl] at hrun
          by_cases r0 : 0 < rest.length
          · rw [if_pos r0] at hrun
            have HRun := Lib.hid hrun.symm
            clear hrun
            go_wp2_with fail
            go_ret2
            exact read_fail HRun.out (e2.trans e3)
          · rw [if_neg r0] at hrun
            have HRun := Lib.hid hrun.symm
            clear hrun
            go_wp2_with fail
            go_ret2
            exact ⟨_, by rw [HRun.out]; rfl, by rw [HRun.out]; exact own_lower hown e2.size, e2.trans e3⟩
end Go.Proofs.YtfongpdeflfioaaGreat
