/- The texts Ue in one file. -/
import Derived.Test.YtfongpdeflfioaaGreatS11
import Derived.Test.YtfongpdeflfioaaGreatS2
/- uber.Encode. -/
namespace Go.Proofs.YtfongpdeflfioaaGreat
open Go.RowKit Go.Maps Go.Sort Go.Shelf
set_option linter.unusedVariables false
set_option linter.unusedSimpArgs false
theorem stp_wf (s : Su) (x : Int) : (stp s x).wf := by
  simp only [Su.wf, stp, IntKind.wrap]
  simp [IntKind.bits, IntKind.signed]; omega
theorem feed_wf (s : Su) (l : List UInt8) (h : s.wf) : (feed s l).wf := by
  unfold feed
  generalize words l = xs
  induction xs generalizing s with
  | nil => exact h
  | cons x r ih => exact ih _ (stp_wf s x)
theorem Su.zero_wf : Su.zero.wf := by simp [Su.wf, Su.zero]
section
variable {P : Program} {w0 w : World} {its : List It} {o : Oper} {a : Act} {K : Act → World → Prop} {Q : Exit → Act → World → Prop}
theorem mark_heap {t e : TypeId} {g n c : Nat} {xs : List Value} (ht : P.underlying t = some (.slice e)) (he : P.underlying e = some (.int .u8)) (H : Heap w0 its w) (i : Nat) (hi : its[i]? = some (.row e 1 (.slice (some ⟨g, 0, none⟩) n c) n xs)) :
    ∃ w', (convert t t (.slice (some ⟨g, 0, none⟩) n c)).run P w = .ok (.slice (some ⟨g, 0, none⟩) n c) w' ∧ Heap w0 (its.set i (.rd (some ⟨g, 0, none⟩) xs)) w' := by
  have hr := H.rowAt i hi
  rcases hr.2 with ⟨hv, _⟩ | ⟨g', cap, cur, hv, hb, hg, hnc, hcm, hcs, htk⟩
  · cases hv
  · cases hv
    have hlt : g < w.heap.size := by
      rcases Nat.lt_or_ge g w.heap.size with h | h
      · exact h
      · rw [Array.getElem?_eq_none h] at hg; cases hg
    have hsh : w.shape? g = some (e, cur.size) := by unfold World.shape?; rw [hg]
    have hw' : (w.freeze ⟨g, cur.size, none⟩ 1).heap[g]? = some (.cells cur e (cur.size, cur.size + 1)) := by
      unfold World.freeze
      rw [if_neg (by decide)]
      show (w.heap.modify g _)[g]? = _
      rw [Array.getElem?_modify, if_pos rfl, hg]
      rfl
    have hne : ∀ k, k ≠ g → (w.freeze ⟨g, cur.size, none⟩ 1).heap[k]? = w.heap[k]? := fun k hk => by
      unfold World.freeze
      rw [if_neg (by decide)]
      show (w.heap.modify g _)[k]? = _
      rw [Array.getElem?_modify, if_neg (Ne.symm hk)]
    have hsz : (w.freeze ⟨g, cur.size, none⟩ 1).heap.size = w.heap.size := by
      unfold World.freeze
      rw [if_neg (by decide)]
      simp
    refine ⟨w.freeze ⟨g, cur.size, none⟩ 1, ?_, ?_⟩
    · simp [convert, run_underlying ht, run_underlying he, markStringish, hsh]
    · refine H.upd hi (x' := .rd (some ⟨g, 0, none⟩) xs) ⟨rfl, rfl, rfl, by rw [hsz]; exact Nat.le_refl _, fun k _ ho => hne k (fun e => ho (by subst e; rfl))⟩ ?_ (fun k hk => hk.elim) (fun k hk => .inl (by obtain ⟨_, a, ha, rfl⟩ := hk; cases ha; rfl)) (fun k hk => by cases hk; exact hb)
      intro hx
      refine ⟨g, 0, rfl, by rw [hsz]; exact hlt, hb, fun j u hu => ?_⟩
      rw [Nat.zero_add]
      have : (w.freeze ⟨g, cur.size, none⟩ 1).cell? ⟨g, j, none⟩ = cur[j]? := by simp [World.cell?, hw']
      rw [this]
      rw [← htk, List.getElem?_take] at hu
      split at hu
      · simpa using hu
      · cases hu
theorem sh_mark {t e : TypeId} {x : Operand} {g n c : Nat} {xs : List Value} (ht : P.underlying t = some (.slice e)) (he : P.underlying e = some (.int .u8)) (H : Heap w0 its w) (ho : o.op = .convert t t x) (hx : a.eval x = .slice (some ⟨g, 0, none⟩) n c) (i : Nat) (hi : its[i]? = some (.row e 1 (.slice (some ⟨g, 0, none⟩) n c) n xs))
    (k : ∀ w', Heap w0 (its.set i (.rd (some ⟨g, 0, none⟩) xs)) w' → K (a.put o.dst (.slice (some ⟨g, 0, none⟩) n c)) w') : o.wp P a w K Q := by
  obtain ⟨w', h1, h2⟩ := mark_heap ht he H i hi
  unfold Oper.wp execOp
  rw [ho]
  simp only [hx, Sem.run_bind, h1]
  exact k w' h2
end
def ueH (u : Ub) : List UInt8 := [103, 100, 110, 49] ++ puts u.txg 8 ++ puts u.first 4 ++ puts u.objs 4 ++ List.replicate 12 0
def ueB (u : Ub) : List UInt8 := ueH u ++ sumO (feed Su.zero (ueH u))
theorem ueH_len (u : Ub) : (ueH u).length = 32 := by simp [ueH, puts_length]
theorem ueB_len (u : Ub) : (ueB u).length = 64 := by simp [ueB, ueH_len, sumO_length]
def UeOut (w : World) (u : Ub) (e : Ending) (w' : World) : Prop :=
  ∃ v n, e = .returned (.tuple #[v, .int .i64 (ubE u)]) ∧ w'.ownsRow w.heap.size 5 1 v n (bytes (if ubE u = 0 then ueB u else [])) ∧ Ext w w'
set_option maxRecDepth 100000 in
set_option maxHeartbeats 8000000 in
theorem uenc_any (w : World) (u : Ub) (h : u.wf) : Calls Tryz.prog 58 #[.agg u.cells.toArray] w (UeOut w u) := by
  have HC := Lib.hid (fun W => ucheck_any W u h)
  have HT := Lib.hid h
  have HL := Lib.hid (ueH_len u)
  have HJ := Lib.hid (show ueH u = [103, 100, 110, 49] ++ puts u.txg 8 ++ puts u.first 4 ++ puts u.objs 4 ++ List.replicate 12 0 from rfl)
  have HP := Lib.hid (show ueB u = ueH u ++ sumO (feed Su.zero (ueH u)) from rfl)
  have HW := Lib.hid (feed_wf Su.zero (ueH u) Su.zero_wf)
  clear h
  unfold UeOut
  generalize ubE u = V at *
  generalize ueB u = UB at *
  generalize ueH u = PH at *
  obtain ⟨t, f, o⟩ := u
  simp only [Ub.cells] at *
  by_cases h1 : V = 0
  · have HV := Lib.hid h1
    subst h1
    go_enter Tryz.func58, Tryz.ntmps58
    go_upto_region 1 with fail
    generalize hwH : World.alloc w _ = w1; have HH := Lib.hid (Heap.one hwH); clear hwH
    have sizeUb : (Tryz.prog.info? 27).map (·.size) = some 3 := by kernel_rfl
    go_upto_region 4 with (first | (refine shl_load HH.out sizeUb (by kernel_rfl) rfl rfl rfl 0 rfl rfl ?_) | (go_at_call 40; (with_reducible refine (HC.out _).mono ?_); rintro e wC ⟨rfl, eC⟩; have HHn := Lib.hid (HH.out.later eC); clear HH eC; have HH := HHn; clear HHn))
    have HTl := Lib.hid (fun (W : World) (AB AP AQ AR AM : Option Addr) (cP cQ cR : Nat) (A : Option Addr) (hA : Rd W 0 W.heap.size A (sbs [⟨AB, 4, 4, [103, 100, 110, 49]⟩, ⟨AP, 8, cP, puts t 8⟩, ⟨AQ, 4, cQ, puts f 4⟩, ⟨AR, 4, cR, puts o 4⟩, ⟨AM, 12, 12, List.replicate 12 0⟩])) (hB : Rd W 0 W.heap.size AB (bytes [103, 100, 110, 49])) (hP : Rd W 0 W.heap.size AP (bytes (puts t 8))) (hQ : Rd W 0 W.heap.size AQ (bytes (puts f 4))) (hR : Rd W 0 W.heap.size AR (bytes (puts o 4))) (hM : Rd W 0 W.heap.size AM (bytes (List.replicate 12 0))) =>
      show Calls Tryz.prog 98 #[.slice A 5 5] W (fun e w' => ∃ v, e = .returned v ∧ w'.ownsRow W.heap.size 5 1 v 32 (bytes PH) ∧ Ext W w') by
        have h := join_any W A 5 5 [⟨AB, 4, 4, [103, 100, 110, 49]⟩, ⟨AP, 8, cP, puts t 8⟩, ⟨AQ, 4, cQ, puts f 4⟩, ⟨AR, 4, cR, puts o 4⟩, ⟨AM, 12, 12, List.replicate 12 0⟩] rfl hA (fun x hx => by
          simp only [List.mem_cons, List.not_mem_nil, or_false] at hx
          rcases hx with rfl | rfl | rfl | rfl | rfl
          · exact ⟨rfl, hB⟩
          · exact ⟨by rw [puts_length], hP⟩
          · exact ⟨by rw [puts_length], hQ⟩
          · exact ⟨by rw [puts_length], hR⟩
          · exact ⟨by simp, hM⟩) (by decide) (by simp [catL, puts_length])
        rw [show catL [⟨AB, 4, 4, [103, 100, 110, 49]⟩, ⟨AP, 8, cP, puts t 8⟩, ⟨AQ, 4, cQ, puts f 4⟩, ⟨AR, 4, cR, puts o 4⟩, ⟨AM, 12, 12, List.replicate 12 0⟩] = PH by rw [HJ.out]; simp [catL], HL.out] at h
        exact h)
    have hmk := mk_bytes 12 (by decide)
    rw [show ((12 : Nat) : Int) = 12 from rfl] at hmk
    have HH0 := Lib.hid HH.out.drew
    clear HH
    go_cut [5] from 11 to 24 (fun s wx => ∃ AJ cJ, s = .slice AJ 32 cJ ∧ Hid (Heap w [.row 5 1 (.slice AJ 32 cJ) 32 (bytes PH)] wx))
    case first =>
      refine wp_region_held_drew (S := Heap w [.box w.heap.size [.int .i64 t, .int .i64 f, .int .i64 o]]) (by kernel_rfl) HH0.out (fun hHeld => ?_)
      generalize hwd : World.drew _ = W0 at *
      clear hwd
      refine tS 2 ?_; (try simp only [Act.put, lyA, lyB, lyC])
      refine tG 3 rfl (fun wT hST => sh_run_load1 hST rfl rfl 0 rfl rfl (by kernel_rfl)) hHeld ?_; (try simp only [Act.put, lyA, lyB, lyC])
      refine tS 5 ?_; (try simp only [Act.put, lyA, lyB, lyC])
      refine tG 6 rfl (fun wT hST => sh_run_load1 hST rfl rfl 0 rfl rfl (by kernel_rfl)) hHeld ?_; (try simp only [Act.put, lyA, lyB, lyC])
      refine tS 8 ?_; (try simp only [Act.put, lyA, lyB, lyC])
      refine tG 9 rfl (fun wT hST => sh_run_load1 hST rfl rfl 0 rfl rfl (by kernel_rfl)) hHeld ?_; (try simp only [Act.put, lyA, lyB, lyC])
      clear hHeld
      refine threeH 0 4 11 rfl rfl rfl (by kernel_rfl) (by kernel_rfl) (by kernel_rfl) (by kernel_rfl) (fun K hK => ?_) (fun K hK => ?_) (fun K hK => ?_)
      · go_simp
        generalize hwA : World.alloc _ _ = W1
        have HH1 := Lib.hid (HH0.out.allocRow hwA (n := 4) (size := 1) rfl (by simp only [maxLen]; omega))
        clear hwA HH0
        refine hK.out _ _ (HH1.out.only 1 rfl) (fun hHeld => ?_)
        clear hK K
        (try simp only [Act.put, lyA, lyB, lyC])
        clear hHeld
        refine threeH 1 4 11 rfl rfl rfl (by kernel_rfl) (by kernel_rfl) (by kernel_rfl) (by kernel_rfl) (fun K hK => ?_) (fun K hK => ?_) (fun K hK => ?_)
        · refine sh_mark Tryz.underlying33 Tryz.underlying5 HH1.out rfl rfl 0 rfl ?_
          intro W2 hm
          have HH2 := Lib.hid hm
          clear HH1 hm
          refine hK.out _ _ (HH2.out.only 1 rfl) (fun hHeld => ?_)
          clear hK K
          (try simp only [Act.put, lyA, lyB, lyC])
          clear hHeld
          refine twoH 4 11 rfl rfl (by kernel_rfl) (by kernel_rfl) (by kernel_rfl) (fun K hK => ?_) (fun K hK => ?_)
          · go_simp
            refine (put_any t _ 8 (by decide) rfl W2 HT.out.t0 HT.out.t1).mono ?_
            rintro e W3 ⟨v, rfl, hown, ee⟩
            obtain ⟨AP, cP, rfl, _, _, _⟩ := own_form hown
            have HH3 := Lib.hid (HH2.out.addRow ee hown)
            clear HH2 hown ee
            go_wp2_with fail
            refine hK.out _ _ (HH3.out.only 2 rfl) (fun hHeld => ?_)
            clear hK K
            (try simp only [Act.put, lyA, lyB, lyC])
            clear hHeld
            refine twoH 7 11 rfl rfl (by kernel_rfl) (by kernel_rfl) (by kernel_rfl) (fun K hK => ?_) (fun K hK => ?_)
            · go_simp
              refine (put_any f _ 4 (by decide) rfl W3 HT.out.f0 HT.out.f1).mono ?_
              rintro e W4 ⟨v, rfl, hown, ee⟩
              obtain ⟨AQ, cQ, rfl, _, _, _⟩ := own_form hown
              have HH4 := Lib.hid (HH3.out.addRow ee hown)
              clear HH3 hown ee
              go_wp2_with fail
              refine hK.out _ _ (HH4.out.only 3 rfl) (fun hHeld => ?_)
              clear hK K
              (try simp only [Act.put, lyA, lyB, lyC])
              clear hHeld
              refine twoH 10 11 rfl rfl (by kernel_rfl) (by kernel_rfl) (by kernel_rfl) (fun K hK => ?_) (fun K hK => ?_)
              · go_simp
                refine (put_any o _ 4 (by decide) rfl W4 HT.out.o0 HT.out.o1).mono ?_
                rintro e W5 ⟨v, rfl, hown, ee⟩
                obtain ⟨AR, cR, rfl, _, _, _⟩ := own_form hown
                have HH5 := Lib.hid (HH4.out.addRow ee hown)
                clear HH4 hown ee
                go_wp2_with fail
                refine hK.out _ _ (HH5.out.only 4 rfl) (fun hHeld => ?_)
                clear hK K
                (try simp only [Act.put, lyA, lyB, lyC])
                clear hHeld
                refine oS 11 (fun K hK => ?_)
                go_simp
                generalize hwA : World.alloc _ _ = W6
                have HH6 := Lib.hid (HH5.out.allocRow hwA (n := 12) (size := 1) (by simp [bytes]) (by simp only [maxLen]; omega))
                clear hwA HH5
                refine hK.out _ _ (HH6.out.only 5 rfl) (fun hHeld => ?_)
                clear hK K
                (try simp only [Act.put, lyA, lyB, lyC])
                clear hHeld
                refine oS 12 (fun K hK => ?_)
                go_simp; generalize hwA : World.alloc _ _ = W7; have HH7 := Lib.hid ((HH6).out.allocE hwA); clear hwA HH6
                refine hK.out _ _ ((HH7).out.only 6 rfl) (fun hHeld => ?_); clear hK K; (try simp only [Act.put, lyA, lyB, lyC]); clear hHeld
                refine oS 13 (fun K hK => ?_)
                go_simp
                refine (HTl.out W7 (some ⟨W0.heap.size, 0, none⟩) AP AQ AR (some ⟨W5.heap.size, 0, none⟩) cP cQ cR _ ((HH7.out.boxRd 0 rfl).m0) ((HH7.out.rdAt 5 rfl).m0) ((HH7.out.rowRd 4 rfl).m0) ((HH7.out.rowRd 3 rfl).m0) ((HH7.out.rowRd 2 rfl).m0) ((HH7.out.rowRd 1 rfl).m0)).mono ?_
                rintro e Wj ⟨v, rfl, hown, ee⟩
                obtain ⟨AJ, cJ, rfl, _, _, _⟩ := own_form hown
                have HHj := Lib.hid (HH7.out.addRow ee hown)
                clear HH7 hown ee
                go_wp2_with fail
                refine hK.out _ _ ((HHj).out.only 7 rfl) (fun hHeld => ?_); clear hK K; (try simp only [Act.put, lyA, lyB, lyC])
                refine tS 14 ?_; (try simp only [Act.put, lyA, lyB, lyC])
                refine wpAnyH_done (by kernel_rfl) ?_ _
                have HH := Lib.hid (HHj.out.only 0 rfl)
                clear HHj
                go_wp2_with fail
                go_meet
                exact ⟨_, _, rfl, HH⟩
              · go_simp
                generalize hwA : World.alloc _ _ = W5
                have HH5 := Lib.hid (HH4.out.allocRow hwA (n := 12) (size := 1) (by simp [bytes]) (by simp only [maxLen]; omega))
                clear hwA HH4
                refine hK.out _ _ (HH5.out.only 4 rfl) (fun hHeld => ?_)
                clear hK K
                (try simp only [Act.put, lyA, lyB, lyC])
                clear hHeld
                refine oS 10 (fun K hK => ?_)
                go_simp
                refine (put_any o _ 4 (by decide) rfl W5 HT.out.o0 HT.out.o1).mono ?_
                rintro e W6 ⟨v, rfl, hown, ee⟩
                obtain ⟨AR, cR, rfl, _, _, _⟩ := own_form hown
                have HH6 := Lib.hid (HH5.out.addRow ee hown)
                clear HH5 hown ee
                go_wp2_with fail
                refine hK.out _ _ (HH6.out.only 5 rfl) (fun hHeld => ?_)
                clear hK K
                (try simp only [Act.put, lyA, lyB, lyC])
                clear hHeld
                refine oS 12 (fun K hK => ?_)
                go_simp; generalize hwA : World.alloc _ _ = W7; have HH7 := Lib.hid ((HH6).out.allocE hwA); clear hwA HH6
                refine hK.out _ _ ((HH7).out.only 6 rfl) (fun hHeld => ?_); clear hK K; (try simp only [Act.put, lyA, lyB, lyC]); clear hHeld
                refine oS 13 (fun K hK => ?_)
                go_simp
                refine (HTl.out W7 (some ⟨W0.heap.size, 0, none⟩) AP AQ AR (some ⟨W4.heap.size, 0, none⟩) cP cQ cR _ ((HH7.out.boxRd 0 rfl).m0) ((HH7.out.rdAt 5 rfl).m0) ((HH7.out.rowRd 4 rfl).m0) ((HH7.out.rowRd 3 rfl).m0) ((HH7.out.rowRd 1 rfl).m0) ((HH7.out.rowRd 2 rfl).m0)).mono ?_
                rintro e Wj ⟨v, rfl, hown, ee⟩
                obtain ⟨AJ, cJ, rfl, _, _, _⟩ := own_form hown
                have HHj := Lib.hid (HH7.out.addRow ee hown)
                clear HH7 hown ee
                go_wp2_with fail
                refine hK.out _ _ ((HHj).out.only 7 rfl) (fun hHeld => ?_); clear hK K; (try simp only [Act.put, lyA, lyB, lyC])
                refine tS 14 ?_; (try simp only [Act.put, lyA, lyB, lyC])
                refine wpAnyH_done (by kernel_rfl) ?_ _
                have HH := Lib.hid (HHj.out.only 0 rfl)
                clear HHj
                go_wp2_with fail
                go_meet
                exact ⟨_, _, rfl, HH⟩
            · go_simp
              generalize hwA : World.alloc _ _ = W4
              have HH4 := Lib.hid (HH3.out.allocRow hwA (n := 12) (size := 1) (by simp [bytes]) (by simp only [maxLen]; omega))
              clear hwA HH3
              refine hK.out _ _ (HH4.out.only 3 rfl) (fun hHeld => ?_)
              clear hK K
              (try simp only [Act.put, lyA, lyB, lyC])
              clear hHeld
              refine oS 7 (fun K hK => ?_)
              go_simp
              refine (put_any f _ 4 (by decide) rfl W4 HT.out.f0 HT.out.f1).mono ?_
              rintro e W5 ⟨v, rfl, hown, ee⟩
              obtain ⟨AQ, cQ, rfl, _, _, _⟩ := own_form hown
              have HH5 := Lib.hid (HH4.out.addRow ee hown)
              clear HH4 hown ee
              go_wp2_with fail
              refine hK.out _ _ (HH5.out.only 4 rfl) (fun hHeld => ?_)
              clear hK K
              (try simp only [Act.put, lyA, lyB, lyC])
              clear hHeld
              refine oS 10 (fun K hK => ?_)
              go_simp
              refine (put_any o _ 4 (by decide) rfl W5 HT.out.o0 HT.out.o1).mono ?_
              rintro e W6 ⟨v, rfl, hown, ee⟩
              obtain ⟨AR, cR, rfl, _, _, _⟩ := own_form hown
              have HH6 := Lib.hid (HH5.out.addRow ee hown)
              clear HH5 hown ee
              go_wp2_with fail
              refine hK.out _ _ (HH6.out.only 5 rfl) (fun hHeld => ?_)
              clear hK K
              (try simp only [Act.put, lyA, lyB, lyC])
              clear hHeld
              refine oS 12 (fun K hK => ?_)
              go_simp; generalize hwA : World.alloc _ _ = W7; have HH7 := Lib.hid ((HH6).out.allocE hwA); clear hwA HH6
              refine hK.out _ _ ((HH7).out.only 6 rfl) (fun hHeld => ?_); clear hK K; (try simp only [Act.put, lyA, lyB, lyC]); clear hHeld
              refine oS 13 (fun K hK => ?_)
              go_simp
              refine (HTl.out W7 (some ⟨W0.heap.size, 0, none⟩) AP AQ AR (some ⟨W3.heap.size, 0, none⟩) cP cQ cR _ ((HH7.out.boxRd 0 rfl).m0) ((HH7.out.rdAt 5 rfl).m0) ((HH7.out.rowRd 4 rfl).m0) ((HH7.out.rowRd 2 rfl).m0) ((HH7.out.rowRd 1 rfl).m0) ((HH7.out.rowRd 3 rfl).m0)).mono ?_
              rintro e Wj ⟨v, rfl, hown, ee⟩
              obtain ⟨AJ, cJ, rfl, _, _, _⟩ := own_form hown
              have HHj := Lib.hid (HH7.out.addRow ee hown)
              clear HH7 hown ee
              go_wp2_with fail
              refine hK.out _ _ ((HHj).out.only 7 rfl) (fun hHeld => ?_); clear hK K; (try simp only [Act.put, lyA, lyB, lyC])
              refine tS 14 ?_; (try simp only [Act.put, lyA, lyB, lyC])
              refine wpAnyH_done (by kernel_rfl) ?_ _
              have HH := Lib.hid (HHj.out.only 0 rfl)
              clear HHj
              go_wp2_with fail
              go_meet
              exact ⟨_, _, rfl, HH⟩
          · go_simp
            generalize hwA : World.alloc _ _ = W3
            have HH3 := Lib.hid (HH2.out.allocRow hwA (n := 12) (size := 1) (by simp [bytes]) (by simp only [maxLen]; omega))
            clear hwA HH2
            refine hK.out _ _ (HH3.out.only 2 rfl) (fun hHeld => ?_)
            clear hK K
            (try simp only [Act.put, lyA, lyB, lyC])
            clear hHeld
            refine oS 4 (fun K hK => ?_)
            go_simp
            refine (put_any t _ 8 (by decide) rfl W3 HT.out.t0 HT.out.t1).mono ?_
            rintro e W4 ⟨v, rfl, hown, ee⟩
            obtain ⟨AP, cP, rfl, _, _, _⟩ := own_form hown
            have HH4 := Lib.hid (HH3.out.addRow ee hown)
            clear HH3 hown ee
            go_wp2_with fail
            refine hK.out _ _ (HH4.out.only 3 rfl) (fun hHeld => ?_)
            clear hK K
            (try simp only [Act.put, lyA, lyB, lyC])
            clear hHeld
            refine oS 7 (fun K hK => ?_)
            go_simp
            refine (put_any f _ 4 (by decide) rfl W4 HT.out.f0 HT.out.f1).mono ?_
            rintro e W5 ⟨v, rfl, hown, ee⟩
            obtain ⟨AQ, cQ, rfl, _, _, _⟩ := own_form hown
            have HH5 := Lib.hid (HH4.out.addRow ee hown)
            clear HH4 hown ee
            go_wp2_with fail
            refine hK.out _ _ (HH5.out.only 4 rfl) (fun hHeld => ?_)
            clear hK K
            (try simp only [Act.put, lyA, lyB, lyC])
            clear hHeld
            refine oS 10 (fun K hK => ?_)
            go_simp
            refine (put_any o _ 4 (by decide) rfl W5 HT.out.o0 HT.out.o1).mono ?_
            rintro e W6 ⟨v, rfl, hown, ee⟩
            obtain ⟨AR, cR, rfl, _, _, _⟩ := own_form hown
            have HH6 := Lib.hid (HH5.out.addRow ee hown)
            clear HH5 hown ee
            go_wp2_with fail
            refine hK.out _ _ (HH6.out.only 5 rfl) (fun hHeld => ?_)
            clear hK K
            (try simp only [Act.put, lyA, lyB, lyC])
            clear hHeld
            refine oS 12 (fun K hK => ?_)
            go_simp; generalize hwA : World.alloc _ _ = W7; have HH7 := Lib.hid ((HH6).out.allocE hwA); clear hwA HH6
            refine hK.out _ _ ((HH7).out.only 6 rfl) (fun hHeld => ?_); clear hK K; (try simp only [Act.put, lyA, lyB, lyC]); clear hHeld
            refine oS 13 (fun K hK => ?_)
            go_simp
            refine (HTl.out W7 (some ⟨W0.heap.size, 0, none⟩) AP AQ AR (some ⟨W2.heap.size, 0, none⟩) cP cQ cR _ ((HH7.out.boxRd 0 rfl).m0) ((HH7.out.rdAt 5 rfl).m0) ((HH7.out.rowRd 3 rfl).m0) ((HH7.out.rowRd 2 rfl).m0) ((HH7.out.rowRd 1 rfl).m0) ((HH7.out.rowRd 4 rfl).m0)).mono ?_
            rintro e Wj ⟨v, rfl, hown, ee⟩
            obtain ⟨AJ, cJ, rfl, _, _, _⟩ := own_form hown
            have HHj := Lib.hid (HH7.out.addRow ee hown)
            clear HH7 hown ee
            go_wp2_with fail
            refine hK.out _ _ ((HHj).out.only 7 rfl) (fun hHeld => ?_); clear hK K; (try simp only [Act.put, lyA, lyB, lyC])
            refine tS 14 ?_; (try simp only [Act.put, lyA, lyB, lyC])
            refine wpAnyH_done (by kernel_rfl) ?_ _
            have HH := Lib.hid (HHj.out.only 0 rfl)
            clear HHj
            go_wp2_with fail
            go_meet
            exact ⟨_, _, rfl, HH⟩
        · go_simp
          refine (put_any t _ 8 (by decide) rfl W1 HT.out.t0 HT.out.t1).mono ?_
          rintro e W2 ⟨v, rfl, hown, ee⟩
          obtain ⟨AP, cP, rfl, _, _, _⟩ := own_form hown
          have HH2 := Lib.hid (HH1.out.addRow ee hown)
          clear HH1 hown ee
          go_wp2_with fail
          refine hK.out _ _ (HH2.out.only 2 rfl) (fun hHeld => ?_)
          clear hK K
          (try simp only [Act.put, lyA, lyB, lyC])
          clear hHeld
          refine threeH 1 7 11 rfl rfl rfl (by kernel_rfl) (by kernel_rfl) (by kernel_rfl) (by kernel_rfl) (fun K hK => ?_) (fun K hK => ?_) (fun K hK => ?_)
          · refine sh_mark Tryz.underlying33 Tryz.underlying5 HH2.out rfl rfl 1 rfl ?_
            intro W3 hm
            have HH3 := Lib.hid hm
            clear HH2 hm
            refine hK.out _ _ (HH3.out.only 2 rfl) (fun hHeld => ?_)
            clear hK K
            (try simp only [Act.put, lyA, lyB, lyC])
            clear hHeld
            refine twoH 7 11 rfl rfl (by kernel_rfl) (by kernel_rfl) (by kernel_rfl) (fun K hK => ?_) (fun K hK => ?_)
            · go_simp
              refine (put_any f _ 4 (by decide) rfl W3 HT.out.f0 HT.out.f1).mono ?_
              rintro e W4 ⟨v, rfl, hown, ee⟩
              obtain ⟨AQ, cQ, rfl, _, _, _⟩ := own_form hown
              have HH4 := Lib.hid (HH3.out.addRow ee hown)
              clear HH3 hown ee
              go_wp2_with fail
              refine hK.out _ _ (HH4.out.only 3 rfl) (fun hHeld => ?_)
              clear hK K
              (try simp only [Act.put, lyA, lyB, lyC])
              clear hHeld
              refine twoH 10 11 rfl rfl (by kernel_rfl) (by kernel_rfl) (by kernel_rfl) (fun K hK => ?_) (fun K hK => ?_)
              · go_simp
                refine (put_any o _ 4 (by decide) rfl W4 HT.out.o0 HT.out.o1).mono ?_
                rintro e W5 ⟨v, rfl, hown, ee⟩
                obtain ⟨AR, cR, rfl, _, _, _⟩ := own_form hown
                have HH5 := Lib.hid (HH4.out.addRow ee hown)
                clear HH4 hown ee
                go_wp2_with fail
                refine hK.out _ _ (HH5.out.only 4 rfl) (fun hHeld => ?_)
                clear hK K
                (try simp only [Act.put, lyA, lyB, lyC])
                clear hHeld
                refine oS 11 (fun K hK => ?_)
                go_simp
                generalize hwA : World.alloc _ _ = W6
                have HH6 := Lib.hid (HH5.out.allocRow hwA (n := 12) (size := 1) (by simp [bytes]) (by simp only [maxLen]; omega))
                clear hwA HH5
                refine hK.out _ _ (HH6.out.only 5 rfl) (fun hHeld => ?_)
                clear hK K
                (try simp only [Act.put, lyA, lyB, lyC])
                clear hHeld
                refine oS 12 (fun K hK => ?_)
                go_simp; generalize hwA : World.alloc _ _ = W7; have HH7 := Lib.hid ((HH6).out.allocE hwA); clear hwA HH6
                refine hK.out _ _ ((HH7).out.only 6 rfl) (fun hHeld => ?_); clear hK K; (try simp only [Act.put, lyA, lyB, lyC]); clear hHeld
                refine oS 13 (fun K hK => ?_)
                go_simp
                refine (HTl.out W7 (some ⟨W0.heap.size, 0, none⟩) AP AQ AR (some ⟨W5.heap.size, 0, none⟩) cP cQ cR _ ((HH7.out.boxRd 0 rfl).m0) ((HH7.out.rdAt 5 rfl).m0) ((HH7.out.rowRd 4 rfl).m0) ((HH7.out.rowRd 3 rfl).m0) ((HH7.out.rowRd 2 rfl).m0) ((HH7.out.rowRd 1 rfl).m0)).mono ?_
                rintro e Wj ⟨v, rfl, hown, ee⟩
                obtain ⟨AJ, cJ, rfl, _, _, _⟩ := own_form hown
                have HHj := Lib.hid (HH7.out.addRow ee hown)
                clear HH7 hown ee
                go_wp2_with fail
                refine hK.out _ _ ((HHj).out.only 7 rfl) (fun hHeld => ?_); clear hK K; (try simp only [Act.put, lyA, lyB, lyC])
                refine tS 14 ?_; (try simp only [Act.put, lyA, lyB, lyC])
                refine wpAnyH_done (by kernel_rfl) ?_ _
                have HH := Lib.hid (HHj.out.only 0 rfl)
                clear HHj
                go_wp2_with fail
                go_meet
                exact ⟨_, _, rfl, HH⟩
              · go_simp
                generalize hwA : World.alloc _ _ = W5
                have HH5 := Lib.hid (HH4.out.allocRow hwA (n := 12) (size := 1) (by simp [bytes]) (by simp only [maxLen]; omega))
                clear hwA HH4
                refine hK.out _ _ (HH5.out.only 4 rfl) (fun hHeld => ?_)
                clear hK K
                (try simp only [Act.put, lyA, lyB, lyC])
                clear hHeld
                refine oS 10 (fun K hK => ?_)
                go_simp
                refine (put_any o _ 4 (by decide) rfl W5 HT.out.o0 HT.out.o1).mono ?_
                rintro e W6 ⟨v, rfl, hown, ee⟩
                obtain ⟨AR, cR, rfl, _, _, _⟩ := own_form hown
                have HH6 := Lib.hid (HH5.out.addRow ee hown)
                clear HH5 hown ee
                go_wp2_with fail
                refine hK.out _ _ (HH6.out.only 5 rfl) (fun hHeld => ?_)
                clear hK K
                (try simp only [Act.put, lyA, lyB, lyC])
                clear hHeld
                refine oS 12 (fun K hK => ?_)
                go_simp; generalize hwA : World.alloc _ _ = W7; have HH7 := Lib.hid ((HH6).out.allocE hwA); clear hwA HH6
                refine hK.out _ _ ((HH7).out.only 6 rfl) (fun hHeld => ?_); clear hK K; (try simp only [Act.put, lyA, lyB, lyC]); clear hHeld
                refine oS 13 (fun K hK => ?_)
                go_simp
                refine (HTl.out W7 (some ⟨W0.heap.size, 0, none⟩) AP AQ AR (some ⟨W4.heap.size, 0, none⟩) cP cQ cR _ ((HH7.out.boxRd 0 rfl).m0) ((HH7.out.rdAt 5 rfl).m0) ((HH7.out.rowRd 4 rfl).m0) ((HH7.out.rowRd 3 rfl).m0) ((HH7.out.rowRd 1 rfl).m0) ((HH7.out.rowRd 2 rfl).m0)).mono ?_
                rintro e Wj ⟨v, rfl, hown, ee⟩
                obtain ⟨AJ, cJ, rfl, _, _, _⟩ := own_form hown
                have HHj := Lib.hid (HH7.out.addRow ee hown)
                clear HH7 hown ee
                go_wp2_with fail
                refine hK.out _ _ ((HHj).out.only 7 rfl) (fun hHeld => ?_); clear hK K; (try simp only [Act.put, lyA, lyB, lyC])
                refine tS 14 ?_; (try simp only [Act.put, lyA, lyB, lyC])
                refine wpAnyH_done (by kernel_rfl) ?_ _
                have HH := Lib.hid (HHj.out.only 0 rfl)
                clear HHj
                go_wp2_with fail
                go_meet
                exact ⟨_, _, rfl, HH⟩
            · go_simp
              generalize hwA : World.alloc _ _ = W4
              have HH4 := Lib.hid (HH3.out.allocRow hwA (n := 12) (size := 1) (by simp [bytes]) (by simp only [maxLen]; omega))
              clear hwA HH3
              refine hK.out _ _ (HH4.out.only 3 rfl) (fun hHeld => ?_)
              clear hK K
              (try simp only [Act.put, lyA, lyB, lyC])
              clear hHeld
              refine oS 7 (fun K hK => ?_)
              go_simp
              refine (put_any f _ 4 (by decide) rfl W4 HT.out.f0 HT.out.f1).mono ?_
              rintro e W5 ⟨v, rfl, hown, ee⟩
              obtain ⟨AQ, cQ, rfl, _, _, _⟩ := own_form hown
              have HH5 := Lib.hid (HH4.out.addRow ee hown)
              clear HH4 hown ee
              go_wp2_with fail
              refine hK.out _ _ (HH5.out.only 4 rfl) (fun hHeld => ?_)
              clear hK K
              (try simp only [Act.put, lyA, lyB, lyC])
              clear hHeld
              refine oS 10 (fun K hK => ?_)
              go_simp
              refine (put_any o _ 4 (by decide) rfl W5 HT.out.o0 HT.out.o1).mono ?_
              rintro e W6 ⟨v, rfl, hown, ee⟩
              obtain ⟨AR, cR, rfl, _, _, _⟩ := own_form hown
              have HH6 := Lib.hid (HH5.out.addRow ee hown)
              clear HH5 hown ee
              go_wp2_with fail
              refine hK.out _ _ (HH6.out.only 5 rfl) (fun hHeld => ?_)
              clear hK K
              (try simp only [Act.put, lyA, lyB, lyC])
              clear hHeld
              refine oS 12 (fun K hK => ?_)
              go_simp; generalize hwA : World.alloc _ _ = W7; have HH7 := Lib.hid ((HH6).out.allocE hwA); clear hwA HH6
              refine hK.out _ _ ((HH7).out.only 6 rfl) (fun hHeld => ?_); clear hK K; (try simp only [Act.put, lyA, lyB, lyC]); clear hHeld
              refine oS 13 (fun K hK => ?_)
              go_simp
              refine (HTl.out W7 (some ⟨W0.heap.size, 0, none⟩) AP AQ AR (some ⟨W3.heap.size, 0, none⟩) cP cQ cR _ ((HH7.out.boxRd 0 rfl).m0) ((HH7.out.rdAt 5 rfl).m0) ((HH7.out.rowRd 4 rfl).m0) ((HH7.out.rowRd 2 rfl).m0) ((HH7.out.rowRd 1 rfl).m0) ((HH7.out.rowRd 3 rfl).m0)).mono ?_
              rintro e Wj ⟨v, rfl, hown, ee⟩
              obtain ⟨AJ, cJ, rfl, _, _, _⟩ := own_form hown
              have HHj := Lib.hid (HH7.out.addRow ee hown)
              clear HH7 hown ee
              go_wp2_with fail
              refine hK.out _ _ ((HHj).out.only 7 rfl) (fun hHeld => ?_); clear hK K; (try simp only [Act.put, lyA, lyB, lyC])
              refine tS 14 ?_; (try simp only [Act.put, lyA, lyB, lyC])
              refine wpAnyH_done (by kernel_rfl) ?_ _
              have HH := Lib.hid (HHj.out.only 0 rfl)
              clear HHj
              go_wp2_with fail
              go_meet
              exact ⟨_, _, rfl, HH⟩
          · go_simp
            refine (put_any f _ 4 (by decide) rfl W2 HT.out.f0 HT.out.f1).mono ?_
            rintro e W3 ⟨v, rfl, hown, ee⟩
            obtain ⟨AQ, cQ, rfl, _, _, _⟩ := own_form hown
            have HH3 := Lib.hid (HH2.out.addRow ee hown)
            clear HH2 hown ee
            go_wp2_with fail
            refine hK.out _ _ (HH3.out.only 3 rfl) (fun hHeld => ?_)
            clear hK K
            (try simp only [Act.put, lyA, lyB, lyC])
            clear hHeld
            refine threeH 1 10 11 rfl rfl rfl (by kernel_rfl) (by kernel_rfl) (by kernel_rfl) (by kernel_rfl) (fun K hK => ?_) (fun K hK => ?_) (fun K hK => ?_)
            · refine sh_mark Tryz.underlying33 Tryz.underlying5 HH3.out rfl rfl 2 rfl ?_
              intro W4 hm
              have HH4 := Lib.hid hm
              clear HH3 hm
              refine hK.out _ _ (HH4.out.only 3 rfl) (fun hHeld => ?_)
              clear hK K
              (try simp only [Act.put, lyA, lyB, lyC])
              clear hHeld
              refine twoH 10 11 rfl rfl (by kernel_rfl) (by kernel_rfl) (by kernel_rfl) (fun K hK => ?_) (fun K hK => ?_)
              · go_simp
                refine (put_any o _ 4 (by decide) rfl W4 HT.out.o0 HT.out.o1).mono ?_
                rintro e W5 ⟨v, rfl, hown, ee⟩
                obtain ⟨AR, cR, rfl, _, _, _⟩ := own_form hown
                have HH5 := Lib.hid (HH4.out.addRow ee hown)
                clear HH4 hown ee
                go_wp2_with fail
                refine hK.out _ _ (HH5.out.only 4 rfl) (fun hHeld => ?_)
                clear hK K
                (try simp only [Act.put, lyA, lyB, lyC])
                clear hHeld
                refine oS 11 (fun K hK => ?_)
                go_simp
                generalize hwA : World.alloc _ _ = W6
                have HH6 := Lib.hid (HH5.out.allocRow hwA (n := 12) (size := 1) (by simp [bytes]) (by simp only [maxLen]; omega))
                clear hwA HH5
                refine hK.out _ _ (HH6.out.only 5 rfl) (fun hHeld => ?_)
                clear hK K
                (try simp only [Act.put, lyA, lyB, lyC])
                clear hHeld
                refine oS 12 (fun K hK => ?_)
                go_simp; generalize hwA : World.alloc _ _ = W7; have HH7 := Lib.hid ((HH6).out.allocE hwA); clear hwA HH6
                refine hK.out _ _ ((HH7).out.only 6 rfl) (fun hHeld => ?_); clear hK K; (try simp only [Act.put, lyA, lyB, lyC]); clear hHeld
                refine oS 13 (fun K hK => ?_)
                go_simp
                refine (HTl.out W7 (some ⟨W0.heap.size, 0, none⟩) AP AQ AR (some ⟨W5.heap.size, 0, none⟩) cP cQ cR _ ((HH7.out.boxRd 0 rfl).m0) ((HH7.out.rdAt 5 rfl).m0) ((HH7.out.rowRd 4 rfl).m0) ((HH7.out.rowRd 3 rfl).m0) ((HH7.out.rowRd 2 rfl).m0) ((HH7.out.rowRd 1 rfl).m0)).mono ?_
                rintro e Wj ⟨v, rfl, hown, ee⟩
                obtain ⟨AJ, cJ, rfl, _, _, _⟩ := own_form hown
                have HHj := Lib.hid (HH7.out.addRow ee hown)
                clear HH7 hown ee
                go_wp2_with fail
                refine hK.out _ _ ((HHj).out.only 7 rfl) (fun hHeld => ?_); clear hK K; (try simp only [Act.put, lyA, lyB, lyC])
                refine tS 14 ?_; (try simp only [Act.put, lyA, lyB, lyC])
                refine wpAnyH_done (by kernel_rfl) ?_ _
                have HH := Lib.hid (HHj.out.only 0 rfl)
                clear HHj
                go_wp2_with fail
                go_meet
                exact ⟨_, _, rfl, HH⟩
              · go_simp
                generalize hwA : World.alloc _ _ = W5
                have HH5 := Lib.hid (HH4.out.allocRow hwA (n := 12) (size := 1) (by simp [bytes]) (by simp only [maxLen]; omega))
                clear hwA HH4
                refine hK.out _ _ (HH5.out.only 4 rfl) (fun hHeld => ?_)
                clear hK K
                (try simp only [Act.put, lyA, lyB, lyC])
                clear hHeld
                refine oS 10 (fun K hK => ?_)
                go_simp
                refine (put_any o _ 4 (by decide) rfl W5 HT.out.o0 HT.out.o1).mono ?_
                rintro e W6 ⟨v, rfl, hown, ee⟩
                obtain ⟨AR, cR, rfl, _, _, _⟩ := own_form hown
                have HH6 := Lib.hid (HH5.out.addRow ee hown)
                clear HH5 hown ee
                go_wp2_with fail
                refine hK.out _ _ (HH6.out.only 5 rfl) (fun hHeld => ?_)
                clear hK K
                (try simp only [Act.put, lyA, lyB, lyC])
                clear hHeld
                refine oS 12 (fun K hK => ?_)
                go_simp; generalize hwA : World.alloc _ _ = W7; have HH7 := Lib.hid ((HH6).out.allocE hwA); clear hwA HH6
                refine hK.out _ _ ((HH7).out.only 6 rfl) (fun hHeld => ?_); clear hK K; (try simp only [Act.put, lyA, lyB, lyC]); clear hHeld
                refine oS 13 (fun K hK => ?_)
                go_simp
                refine (HTl.out W7 (some ⟨W0.heap.size, 0, none⟩) AP AQ AR (some ⟨W4.heap.size, 0, none⟩) cP cQ cR _ ((HH7.out.boxRd 0 rfl).m0) ((HH7.out.rdAt 5 rfl).m0) ((HH7.out.rowRd 4 rfl).m0) ((HH7.out.rowRd 3 rfl).m0) ((HH7.out.rowRd 1 rfl).m0) ((HH7.out.rowRd 2 rfl).m0)).mono ?_
                rintro e Wj ⟨v, rfl, hown, ee⟩
                obtain ⟨AJ, cJ, rfl, _, _, _⟩ := own_form hown
                have HHj := Lib.hid (HH7.out.addRow ee hown)
                clear HH7 hown ee
                go_wp2_with fail
                refine hK.out _ _ ((HHj).out.only 7 rfl) (fun hHeld => ?_); clear hK K; (try simp only [Act.put, lyA, lyB, lyC])
                refine tS 14 ?_; (try simp only [Act.put, lyA, lyB, lyC])
                refine wpAnyH_done (by kernel_rfl) ?_ _
                have HH := Lib.hid (HHj.out.only 0 rfl)
                clear HHj
                go_wp2_with fail
                go_meet
                exact ⟨_, _, rfl, HH⟩
            · go_simp
              refine (put_any o _ 4 (by decide) rfl W3 HT.out.o0 HT.out.o1).mono ?_
              rintro e W4 ⟨v, rfl, hown, ee⟩
              obtain ⟨AR, cR, rfl, _, _, _⟩ := own_form hown
              have HH4 := Lib.hid (HH3.out.addRow ee hown)
              clear HH3 hown ee
              go_wp2_with fail
              refine hK.out _ _ (HH4.out.only 4 rfl) (fun hHeld => ?_)
              clear hK K
              (try simp only [Act.put, lyA, lyB, lyC])
              clear hHeld
              refine twoH 1 11 rfl rfl (by kernel_rfl) (by kernel_rfl) (by kernel_rfl) (fun K hK => ?_) (fun K hK => ?_)
              · refine sh_mark Tryz.underlying33 Tryz.underlying5 HH4.out rfl rfl 3 rfl ?_
                intro W5 hm
                have HH5 := Lib.hid hm
                clear HH4 hm
                refine hK.out _ _ (HH5.out.only 4 rfl) (fun hHeld => ?_)
                clear hK K
                (try simp only [Act.put, lyA, lyB, lyC])
                clear hHeld
                refine oS 11 (fun K hK => ?_)
                go_simp
                generalize hwA : World.alloc _ _ = W6
                have HH6 := Lib.hid (HH5.out.allocRow hwA (n := 12) (size := 1) (by simp [bytes]) (by simp only [maxLen]; omega))
                clear hwA HH5
                refine hK.out _ _ (HH6.out.only 5 rfl) (fun hHeld => ?_)
                clear hK K
                (try simp only [Act.put, lyA, lyB, lyC])
                clear hHeld
                refine oS 12 (fun K hK => ?_)
                go_simp; generalize hwA : World.alloc _ _ = W7; have HH7 := Lib.hid ((HH6).out.allocE hwA); clear hwA HH6
                refine hK.out _ _ ((HH7).out.only 6 rfl) (fun hHeld => ?_); clear hK K; (try simp only [Act.put, lyA, lyB, lyC]); clear hHeld
                refine oS 13 (fun K hK => ?_)
                go_simp
                refine (HTl.out W7 (some ⟨W0.heap.size, 0, none⟩) AP AQ AR (some ⟨W5.heap.size, 0, none⟩) cP cQ cR _ ((HH7.out.boxRd 0 rfl).m0) ((HH7.out.rdAt 5 rfl).m0) ((HH7.out.rowRd 4 rfl).m0) ((HH7.out.rowRd 3 rfl).m0) ((HH7.out.rowRd 2 rfl).m0) ((HH7.out.rowRd 1 rfl).m0)).mono ?_
                rintro e Wj ⟨v, rfl, hown, ee⟩
                obtain ⟨AJ, cJ, rfl, _, _, _⟩ := own_form hown
                have HHj := Lib.hid (HH7.out.addRow ee hown)
                clear HH7 hown ee
                go_wp2_with fail
                refine hK.out _ _ ((HHj).out.only 7 rfl) (fun hHeld => ?_); clear hK K; (try simp only [Act.put, lyA, lyB, lyC])
                refine tS 14 ?_; (try simp only [Act.put, lyA, lyB, lyC])
                refine wpAnyH_done (by kernel_rfl) ?_ _
                have HH := Lib.hid (HHj.out.only 0 rfl)
                clear HHj
                go_wp2_with fail
                go_meet
                exact ⟨_, _, rfl, HH⟩
              · go_simp
                generalize hwA : World.alloc _ _ = W5
                have HH5 := Lib.hid (HH4.out.allocRow hwA (n := 12) (size := 1) (by simp [bytes]) (by simp only [maxLen]; omega))
                clear hwA HH4
                refine hK.out _ _ (HH5.out.only 5 rfl) (fun hHeld => ?_)
                clear hK K
                (try simp only [Act.put, lyA, lyB, lyC])
                clear hHeld
                refine oS 1 (fun K hK => ?_)
                refine sh_mark Tryz.underlying33 Tryz.underlying5 HH5.out rfl rfl 4 rfl ?_
                intro W6 hm
                have HH6 := Lib.hid hm
                clear HH5 hm
                refine hK.out _ _ (HH6.out.only 5 rfl) (fun hHeld => ?_)
                clear hK K
                (try simp only [Act.put, lyA, lyB, lyC])
                clear hHeld
                refine oS 12 (fun K hK => ?_)
                go_simp; generalize hwA : World.alloc _ _ = W7; have HH7 := Lib.hid ((HH6).out.allocE hwA); clear hwA HH6
                refine hK.out _ _ ((HH7).out.only 6 rfl) (fun hHeld => ?_); clear hK K; (try simp only [Act.put, lyA, lyB, lyC]); clear hHeld
                refine oS 13 (fun K hK => ?_)
                go_simp
                refine (HTl.out W7 (some ⟨W0.heap.size, 0, none⟩) AP AQ AR (some ⟨W4.heap.size, 0, none⟩) cP cQ cR _ ((HH7.out.boxRd 0 rfl).m0) ((HH7.out.rdAt 5 rfl).m0) ((HH7.out.rowRd 4 rfl).m0) ((HH7.out.rowRd 3 rfl).m0) ((HH7.out.rowRd 2 rfl).m0) ((HH7.out.rowRd 1 rfl).m0)).mono ?_
                rintro e Wj ⟨v, rfl, hown, ee⟩
                obtain ⟨AJ, cJ, rfl, _, _, _⟩ := own_form hown
                have HHj := Lib.hid (HH7.out.addRow ee hown)
                clear HH7 hown ee
                go_wp2_with fail
                refine hK.out _ _ ((HHj).out.only 7 rfl) (fun hHeld => ?_); clear hK K; (try simp only [Act.put, lyA, lyB, lyC])
                refine tS 14 ?_; (try simp only [Act.put, lyA, lyB, lyC])
                refine wpAnyH_done (by kernel_rfl) ?_ _
                have HH := Lib.hid (HHj.out.only 0 rfl)
                clear HHj
                go_wp2_with fail
                go_meet
                exact ⟨_, _, rfl, HH⟩
            · go_simp
              generalize hwA : World.alloc _ _ = W4
              have HH4 := Lib.hid (HH3.out.allocRow hwA (n := 12) (size := 1) (by simp [bytes]) (by simp only [maxLen]; omega))
              clear hwA HH3
              refine hK.out _ _ (HH4.out.only 4 rfl) (fun hHeld => ?_)
              clear hK K
              (try simp only [Act.put, lyA, lyB, lyC])
              clear hHeld
              refine twoH 1 10 rfl rfl (by kernel_rfl) (by kernel_rfl) (by kernel_rfl) (fun K hK => ?_) (fun K hK => ?_)
              · refine sh_mark Tryz.underlying33 Tryz.underlying5 HH4.out rfl rfl 3 rfl ?_
                intro W5 hm
                have HH5 := Lib.hid hm
                clear HH4 hm
                refine hK.out _ _ (HH5.out.only 4 rfl) (fun hHeld => ?_)
                clear hK K
                (try simp only [Act.put, lyA, lyB, lyC])
                clear hHeld
                refine oS 10 (fun K hK => ?_)
                go_simp
                refine (put_any o _ 4 (by decide) rfl W5 HT.out.o0 HT.out.o1).mono ?_
                rintro e W6 ⟨v, rfl, hown, ee⟩
                obtain ⟨AR, cR, rfl, _, _, _⟩ := own_form hown
                have HH6 := Lib.hid (HH5.out.addRow ee hown)
                clear HH5 hown ee
                go_wp2_with fail
                refine hK.out _ _ (HH6.out.only 5 rfl) (fun hHeld => ?_)
                clear hK K
                (try simp only [Act.put, lyA, lyB, lyC])
                clear hHeld
                refine oS 12 (fun K hK => ?_)
                go_simp; generalize hwA : World.alloc _ _ = W7; have HH7 := Lib.hid ((HH6).out.allocE hwA); clear hwA HH6
                refine hK.out _ _ ((HH7).out.only 6 rfl) (fun hHeld => ?_); clear hK K; (try simp only [Act.put, lyA, lyB, lyC]); clear hHeld
                refine oS 13 (fun K hK => ?_)
                go_simp
                refine (HTl.out W7 (some ⟨W0.heap.size, 0, none⟩) AP AQ AR (some ⟨W3.heap.size, 0, none⟩) cP cQ cR _ ((HH7.out.boxRd 0 rfl).m0) ((HH7.out.rdAt 5 rfl).m0) ((HH7.out.rowRd 4 rfl).m0) ((HH7.out.rowRd 3 rfl).m0) ((HH7.out.rowRd 1 rfl).m0) ((HH7.out.rowRd 2 rfl).m0)).mono ?_
                rintro e Wj ⟨v, rfl, hown, ee⟩
                obtain ⟨AJ, cJ, rfl, _, _, _⟩ := own_form hown
                have HHj := Lib.hid (HH7.out.addRow ee hown)
                clear HH7 hown ee
                go_wp2_with fail
                refine hK.out _ _ ((HHj).out.only 7 rfl) (fun hHeld => ?_); clear hK K; (try simp only [Act.put, lyA, lyB, lyC])
                refine tS 14 ?_; (try simp only [Act.put, lyA, lyB, lyC])
                refine wpAnyH_done (by kernel_rfl) ?_ _
                have HH := Lib.hid (HHj.out.only 0 rfl)
                clear HHj
                go_wp2_with fail
                go_meet
                exact ⟨_, _, rfl, HH⟩
              · go_simp
                refine (put_any o _ 4 (by decide) rfl W4 HT.out.o0 HT.out.o1).mono ?_
                rintro e W5 ⟨v, rfl, hown, ee⟩
                obtain ⟨AR, cR, rfl, _, _, _⟩ := own_form hown
                have HH5 := Lib.hid (HH4.out.addRow ee hown)
                clear HH4 hown ee
                go_wp2_with fail
                refine hK.out _ _ (HH5.out.only 5 rfl) (fun hHeld => ?_)
                clear hK K
                (try simp only [Act.put, lyA, lyB, lyC])
                clear hHeld
                refine oS 1 (fun K hK => ?_)
                refine sh_mark Tryz.underlying33 Tryz.underlying5 HH5.out rfl rfl 4 rfl ?_
                intro W6 hm
                have HH6 := Lib.hid hm
                clear HH5 hm
                refine hK.out _ _ (HH6.out.only 5 rfl) (fun hHeld => ?_)
                clear hK K
                (try simp only [Act.put, lyA, lyB, lyC])
                clear hHeld
                refine oS 12 (fun K hK => ?_)
                go_simp; generalize hwA : World.alloc _ _ = W7; have HH7 := Lib.hid ((HH6).out.allocE hwA); clear hwA HH6
                refine hK.out _ _ ((HH7).out.only 6 rfl) (fun hHeld => ?_); clear hK K; (try simp only [Act.put, lyA, lyB, lyC]); clear hHeld
                refine oS 13 (fun K hK => ?_)
                go_simp
                refine (HTl.out W7 (some ⟨W0.heap.size, 0, none⟩) AP AQ AR (some ⟨W3.heap.size, 0, none⟩) cP cQ cR _ ((HH7.out.boxRd 0 rfl).m0) ((HH7.out.rdAt 5 rfl).m0) ((HH7.out.rowRd 4 rfl).m0) ((HH7.out.rowRd 3 rfl).m0) ((HH7.out.rowRd 1 rfl).m0) ((HH7.out.rowRd 2 rfl).m0)).mono ?_
                rintro e Wj ⟨v, rfl, hown, ee⟩
                obtain ⟨AJ, cJ, rfl, _, _, _⟩ := own_form hown
                have HHj := Lib.hid (HH7.out.addRow ee hown)
                clear HH7 hown ee
                go_wp2_with fail
                refine hK.out _ _ ((HHj).out.only 7 rfl) (fun hHeld => ?_); clear hK K; (try simp only [Act.put, lyA, lyB, lyC])
                refine tS 14 ?_; (try simp only [Act.put, lyA, lyB, lyC])
                refine wpAnyH_done (by kernel_rfl) ?_ _
                have HH := Lib.hid (HHj.out.only 0 rfl)
                clear HHj
                go_wp2_with fail
                go_meet
                exact ⟨_, _, rfl, HH⟩
          · go_simp
            generalize hwA : World.alloc _ _ = W3
            have HH3 := Lib.hid (HH2.out.allocRow hwA (n := 12) (size := 1) (by simp [bytes]) (by simp only [maxLen]; omega))
            clear hwA HH2
            refine hK.out _ _ (HH3.out.only 3 rfl) (fun hHeld => ?_)
            clear hK K
            (try simp only [Act.put, lyA, lyB, lyC])
            clear hHeld
            refine twoH 1 7 rfl rfl (by kernel_rfl) (by kernel_rfl) (by kernel_rfl) (fun K hK => ?_) (fun K hK => ?_)
            · refine sh_mark Tryz.underlying33 Tryz.underlying5 HH3.out rfl rfl 2 rfl ?_
              intro W4 hm
              have HH4 := Lib.hid hm
              clear HH3 hm
              refine hK.out _ _ (HH4.out.only 3 rfl) (fun hHeld => ?_)
              clear hK K
              (try simp only [Act.put, lyA, lyB, lyC])
              clear hHeld
              refine oS 7 (fun K hK => ?_)
              go_simp
              refine (put_any f _ 4 (by decide) rfl W4 HT.out.f0 HT.out.f1).mono ?_
              rintro e W5 ⟨v, rfl, hown, ee⟩
              obtain ⟨AQ, cQ, rfl, _, _, _⟩ := own_form hown
              have HH5 := Lib.hid (HH4.out.addRow ee hown)
              clear HH4 hown ee
              go_wp2_with fail
              refine hK.out _ _ (HH5.out.only 4 rfl) (fun hHeld => ?_)
              clear hK K
              (try simp only [Act.put, lyA, lyB, lyC])
              clear hHeld
              refine oS 10 (fun K hK => ?_)
              go_simp
              refine (put_any o _ 4 (by decide) rfl W5 HT.out.o0 HT.out.o1).mono ?_
              rintro e W6 ⟨v, rfl, hown, ee⟩
              obtain ⟨AR, cR, rfl, _, _, _⟩ := own_form hown
              have HH6 := Lib.hid (HH5.out.addRow ee hown)
              clear HH5 hown ee
              go_wp2_with fail
              refine hK.out _ _ (HH6.out.only 5 rfl) (fun hHeld => ?_)
              clear hK K
              (try simp only [Act.put, lyA, lyB, lyC])
              clear hHeld
              refine oS 12 (fun K hK => ?_)
              go_simp; generalize hwA : World.alloc _ _ = W7; have HH7 := Lib.hid ((HH6).out.allocE hwA); clear hwA HH6
              refine hK.out _ _ ((HH7).out.only 6 rfl) (fun hHeld => ?_); clear hK K; (try simp only [Act.put, lyA, lyB, lyC]); clear hHeld
              refine oS 13 (fun K hK => ?_)
              go_simp
              refine (HTl.out W7 (some ⟨W0.heap.size, 0, none⟩) AP AQ AR (some ⟨W2.heap.size, 0, none⟩) cP cQ cR _ ((HH7.out.boxRd 0 rfl).m0) ((HH7.out.rdAt 5 rfl).m0) ((HH7.out.rowRd 4 rfl).m0) ((HH7.out.rowRd 2 rfl).m0) ((HH7.out.rowRd 1 rfl).m0) ((HH7.out.rowRd 3 rfl).m0)).mono ?_
              rintro e Wj ⟨v, rfl, hown, ee⟩
              obtain ⟨AJ, cJ, rfl, _, _, _⟩ := own_form hown
              have HHj := Lib.hid (HH7.out.addRow ee hown)
              clear HH7 hown ee
              go_wp2_with fail
              refine hK.out _ _ ((HHj).out.only 7 rfl) (fun hHeld => ?_); clear hK K; (try simp only [Act.put, lyA, lyB, lyC])
              refine tS 14 ?_; (try simp only [Act.put, lyA, lyB, lyC])
              refine wpAnyH_done (by kernel_rfl) ?_ _
              have HH := Lib.hid (HHj.out.only 0 rfl)
              clear HHj
              go_wp2_with fail
              go_meet
              exact ⟨_, _, rfl, HH⟩
            · go_simp
              refine (put_any f _ 4 (by decide) rfl W3 HT.out.f0 HT.out.f1).mono ?_
              rintro e W4 ⟨v, rfl, hown, ee⟩
              obtain ⟨AQ, cQ, rfl, _, _, _⟩ := own_form hown
              have HH4 := Lib.hid (HH3.out.addRow ee hown)
              clear HH3 hown ee
              go_wp2_with fail
              refine hK.out _ _ (HH4.out.only 4 rfl) (fun hHeld => ?_)
              clear hK K
              (try simp only [Act.put, lyA, lyB, lyC])
              clear hHeld
              refine twoH 1 10 rfl rfl (by kernel_rfl) (by kernel_rfl) (by kernel_rfl) (fun K hK => ?_) (fun K hK => ?_)
              · refine sh_mark Tryz.underlying33 Tryz.underlying5 HH4.out rfl rfl 3 rfl ?_
                intro W5 hm
                have HH5 := Lib.hid hm
                clear HH4 hm
                refine hK.out _ _ (HH5.out.only 4 rfl) (fun hHeld => ?_)
                clear hK K
                (try simp only [Act.put, lyA, lyB, lyC])
                clear hHeld
                refine oS 10 (fun K hK => ?_)
                go_simp
                refine (put_any o _ 4 (by decide) rfl W5 HT.out.o0 HT.out.o1).mono ?_
                rintro e W6 ⟨v, rfl, hown, ee⟩
                obtain ⟨AR, cR, rfl, _, _, _⟩ := own_form hown
                have HH6 := Lib.hid (HH5.out.addRow ee hown)
                clear HH5 hown ee
                go_wp2_with fail
                refine hK.out _ _ (HH6.out.only 5 rfl) (fun hHeld => ?_)
                clear hK K
                (try simp only [Act.put, lyA, lyB, lyC])
                clear hHeld
                refine oS 12 (fun K hK => ?_)
                go_simp; generalize hwA : World.alloc _ _ = W7; have HH7 := Lib.hid ((HH6).out.allocE hwA); clear hwA HH6
                refine hK.out _ _ ((HH7).out.only 6 rfl) (fun hHeld => ?_); clear hK K; (try simp only [Act.put, lyA, lyB, lyC]); clear hHeld
                refine oS 13 (fun K hK => ?_)
                go_simp
                refine (HTl.out W7 (some ⟨W0.heap.size, 0, none⟩) AP AQ AR (some ⟨W2.heap.size, 0, none⟩) cP cQ cR _ ((HH7.out.boxRd 0 rfl).m0) ((HH7.out.rdAt 5 rfl).m0) ((HH7.out.rowRd 4 rfl).m0) ((HH7.out.rowRd 2 rfl).m0) ((HH7.out.rowRd 1 rfl).m0) ((HH7.out.rowRd 3 rfl).m0)).mono ?_
                rintro e Wj ⟨v, rfl, hown, ee⟩
                obtain ⟨AJ, cJ, rfl, _, _, _⟩ := own_form hown
                have HHj := Lib.hid (HH7.out.addRow ee hown)
                clear HH7 hown ee
                go_wp2_with fail
                refine hK.out _ _ ((HHj).out.only 7 rfl) (fun hHeld => ?_); clear hK K; (try simp only [Act.put, lyA, lyB, lyC])
                refine tS 14 ?_; (try simp only [Act.put, lyA, lyB, lyC])
                refine wpAnyH_done (by kernel_rfl) ?_ _
                have HH := Lib.hid (HHj.out.only 0 rfl)
                clear HHj
                go_wp2_with fail
                go_meet
                exact ⟨_, _, rfl, HH⟩
              · go_simp
                refine (put_any o _ 4 (by decide) rfl W4 HT.out.o0 HT.out.o1).mono ?_
                rintro e W5 ⟨v, rfl, hown, ee⟩
                obtain ⟨AR, cR, rfl, _, _, _⟩ := own_form hown
                have HH5 := Lib.hid (HH4.out.addRow ee hown)
                clear HH4 hown ee
                go_wp2_with fail
                refine hK.out _ _ (HH5.out.only 5 rfl) (fun hHeld => ?_)
                clear hK K
                (try simp only [Act.put, lyA, lyB, lyC])
                clear hHeld
                refine oS 1 (fun K hK => ?_)
                refine sh_mark Tryz.underlying33 Tryz.underlying5 HH5.out rfl rfl 4 rfl ?_
                intro W6 hm
                have HH6 := Lib.hid hm
                clear HH5 hm
                refine hK.out _ _ (HH6.out.only 5 rfl) (fun hHeld => ?_)
                clear hK K
                (try simp only [Act.put, lyA, lyB, lyC])
                clear hHeld
                refine oS 12 (fun K hK => ?_)
                go_simp; generalize hwA : World.alloc _ _ = W7; have HH7 := Lib.hid ((HH6).out.allocE hwA); clear hwA HH6
                refine hK.out _ _ ((HH7).out.only 6 rfl) (fun hHeld => ?_); clear hK K; (try simp only [Act.put, lyA, lyB, lyC]); clear hHeld
                refine oS 13 (fun K hK => ?_)
                go_simp
                refine (HTl.out W7 (some ⟨W0.heap.size, 0, none⟩) AP AQ AR (some ⟨W2.heap.size, 0, none⟩) cP cQ cR _ ((HH7.out.boxRd 0 rfl).m0) ((HH7.out.rdAt 5 rfl).m0) ((HH7.out.rowRd 4 rfl).m0) ((HH7.out.rowRd 2 rfl).m0) ((HH7.out.rowRd 1 rfl).m0) ((HH7.out.rowRd 3 rfl).m0)).mono ?_
                rintro e Wj ⟨v, rfl, hown, ee⟩
                obtain ⟨AJ, cJ, rfl, _, _, _⟩ := own_form hown
                have HHj := Lib.hid (HH7.out.addRow ee hown)
                clear HH7 hown ee
                go_wp2_with fail
                refine hK.out _ _ ((HHj).out.only 7 rfl) (fun hHeld => ?_); clear hK K; (try simp only [Act.put, lyA, lyB, lyC])
                refine tS 14 ?_; (try simp only [Act.put, lyA, lyB, lyC])
                refine wpAnyH_done (by kernel_rfl) ?_ _
                have HH := Lib.hid (HHj.out.only 0 rfl)
                clear HHj
                go_wp2_with fail
                go_meet
                exact ⟨_, _, rfl, HH⟩
        · go_simp
          generalize hwA : World.alloc _ _ = W2
          have HH2 := Lib.hid (HH1.out.allocRow hwA (n := 12) (size := 1) (by simp [bytes]) (by simp only [maxLen]; omega))
          clear hwA HH1
          refine hK.out _ _ (HH2.out.only 2 rfl) (fun hHeld => ?_)
          clear hK K
          (try simp only [Act.put, lyA, lyB, lyC])
          clear hHeld
          refine twoH 1 4 rfl rfl (by kernel_rfl) (by kernel_rfl) (by kernel_rfl) (fun K hK => ?_) (fun K hK => ?_)
          · refine sh_mark Tryz.underlying33 Tryz.underlying5 HH2.out rfl rfl 1 rfl ?_
            intro W3 hm
            have HH3 := Lib.hid hm
            clear HH2 hm
            refine hK.out _ _ (HH3.out.only 2 rfl) (fun hHeld => ?_)
            clear hK K
            (try simp only [Act.put, lyA, lyB, lyC])
            clear hHeld
            refine oS 4 (fun K hK => ?_)
            go_simp
            refine (put_any t _ 8 (by decide) rfl W3 HT.out.t0 HT.out.t1).mono ?_
            rintro e W4 ⟨v, rfl, hown, ee⟩
            obtain ⟨AP, cP, rfl, _, _, _⟩ := own_form hown
            have HH4 := Lib.hid (HH3.out.addRow ee hown)
            clear HH3 hown ee
            go_wp2_with fail
            refine hK.out _ _ (HH4.out.only 3 rfl) (fun hHeld => ?_)
            clear hK K
            (try simp only [Act.put, lyA, lyB, lyC])
            clear hHeld
            refine oS 7 (fun K hK => ?_)
            go_simp
            refine (put_any f _ 4 (by decide) rfl W4 HT.out.f0 HT.out.f1).mono ?_
            rintro e W5 ⟨v, rfl, hown, ee⟩
            obtain ⟨AQ, cQ, rfl, _, _, _⟩ := own_form hown
            have HH5 := Lib.hid (HH4.out.addRow ee hown)
            clear HH4 hown ee
            go_wp2_with fail
            refine hK.out _ _ (HH5.out.only 4 rfl) (fun hHeld => ?_)
            clear hK K
            (try simp only [Act.put, lyA, lyB, lyC])
            clear hHeld
            refine oS 10 (fun K hK => ?_)
            go_simp
            refine (put_any o _ 4 (by decide) rfl W5 HT.out.o0 HT.out.o1).mono ?_
            rintro e W6 ⟨v, rfl, hown, ee⟩
            obtain ⟨AR, cR, rfl, _, _, _⟩ := own_form hown
            have HH6 := Lib.hid (HH5.out.addRow ee hown)
            clear HH5 hown ee
            go_wp2_with fail
            refine hK.out _ _ (HH6.out.only 5 rfl) (fun hHeld => ?_)
            clear hK K
            (try simp only [Act.put, lyA, lyB, lyC])
            clear hHeld
            refine oS 12 (fun K hK => ?_)
            go_simp; generalize hwA : World.alloc _ _ = W7; have HH7 := Lib.hid ((HH6).out.allocE hwA); clear hwA HH6
            refine hK.out _ _ ((HH7).out.only 6 rfl) (fun hHeld => ?_); clear hK K; (try simp only [Act.put, lyA, lyB, lyC]); clear hHeld
            refine oS 13 (fun K hK => ?_)
            go_simp
            refine (HTl.out W7 (some ⟨W0.heap.size, 0, none⟩) AP AQ AR (some ⟨W1.heap.size, 0, none⟩) cP cQ cR _ ((HH7.out.boxRd 0 rfl).m0) ((HH7.out.rdAt 5 rfl).m0) ((HH7.out.rowRd 3 rfl).m0) ((HH7.out.rowRd 2 rfl).m0) ((HH7.out.rowRd 1 rfl).m0) ((HH7.out.rowRd 4 rfl).m0)).mono ?_
            rintro e Wj ⟨v, rfl, hown, ee⟩
            obtain ⟨AJ, cJ, rfl, _, _, _⟩ := own_form hown
            have HHj := Lib.hid (HH7.out.addRow ee hown)
            clear HH7 hown ee
            go_wp2_with fail
            refine hK.out _ _ ((HHj).out.only 7 rfl) (fun hHeld => ?_); clear hK K; (try simp only [Act.put, lyA, lyB, lyC])
            refine tS 14 ?_; (try simp only [Act.put, lyA, lyB, lyC])
            refine wpAnyH_done (by kernel_rfl) ?_ _
            have HH := Lib.hid (HHj.out.only 0 rfl)
            clear HHj
            go_wp2_with fail
            go_meet
            exact ⟨_, _, rfl, HH⟩
          · go_simp
            refine (put_any t _ 8 (by decide) rfl W2 HT.out.t0 HT.out.t1).mono ?_
            rintro e W3 ⟨v, rfl, hown, ee⟩
            obtain ⟨AP, cP, rfl, _, _, _⟩ := own_form hown
            have HH3 := Lib.hid (HH2.out.addRow ee hown)
            clear HH2 hown ee
            go_wp2_with fail
            refine hK.out _ _ (HH3.out.only 3 rfl) (fun hHeld => ?_)
            clear hK K
            (try simp only [Act.put, lyA, lyB, lyC])
            clear hHeld
            refine twoH 1 7 rfl rfl (by kernel_rfl) (by kernel_rfl) (by kernel_rfl) (fun K hK => ?_) (fun K hK => ?_)
            · refine sh_mark Tryz.underlying33 Tryz.underlying5 HH3.out rfl rfl 2 rfl ?_
              intro W4 hm
              have HH4 := Lib.hid hm
              clear HH3 hm
              refine hK.out _ _ (HH4.out.only 3 rfl) (fun hHeld => ?_)
              clear hK K
              (try simp only [Act.put, lyA, lyB, lyC])
              clear hHeld
              refine oS 7 (fun K hK => ?_)
              go_simp
              refine (put_any f _ 4 (by decide) rfl W4 HT.out.f0 HT.out.f1).mono ?_
              rintro e W5 ⟨v, rfl, hown, ee⟩
              obtain ⟨AQ, cQ, rfl, _, _, _⟩ := own_form hown
              have HH5 := Lib.hid (HH4.out.addRow ee hown)
              clear HH4 hown ee
              go_wp2_with fail
              refine hK.out _ _ (HH5.out.only 4 rfl) (fun hHeld => ?_)
              clear hK K
              (try simp only [Act.put, lyA, lyB, lyC])
              clear hHeld
              refine oS 10 (fun K hK => ?_)
              go_simp
              refine (put_any o _ 4 (by decide) rfl W5 HT.out.o0 HT.out.o1).mono ?_
              rintro e W6 ⟨v, rfl, hown, ee⟩
              obtain ⟨AR, cR, rfl, _, _, _⟩ := own_form hown
              have HH6 := Lib.hid (HH5.out.addRow ee hown)
              clear HH5 hown ee
              go_wp2_with fail
              refine hK.out _ _ (HH6.out.only 5 rfl) (fun hHeld => ?_)
              clear hK K
              (try simp only [Act.put, lyA, lyB, lyC])
              clear hHeld
              refine oS 12 (fun K hK => ?_)
              go_simp; generalize hwA : World.alloc _ _ = W7; have HH7 := Lib.hid ((HH6).out.allocE hwA); clear hwA HH6
              refine hK.out _ _ ((HH7).out.only 6 rfl) (fun hHeld => ?_); clear hK K; (try simp only [Act.put, lyA, lyB, lyC]); clear hHeld
              refine oS 13 (fun K hK => ?_)
              go_simp
              refine (HTl.out W7 (some ⟨W0.heap.size, 0, none⟩) AP AQ AR (some ⟨W1.heap.size, 0, none⟩) cP cQ cR _ ((HH7.out.boxRd 0 rfl).m0) ((HH7.out.rdAt 5 rfl).m0) ((HH7.out.rowRd 3 rfl).m0) ((HH7.out.rowRd 2 rfl).m0) ((HH7.out.rowRd 1 rfl).m0) ((HH7.out.rowRd 4 rfl).m0)).mono ?_
              rintro e Wj ⟨v, rfl, hown, ee⟩
              obtain ⟨AJ, cJ, rfl, _, _, _⟩ := own_form hown
              have HHj := Lib.hid (HH7.out.addRow ee hown)
              clear HH7 hown ee
              go_wp2_with fail
              refine hK.out _ _ ((HHj).out.only 7 rfl) (fun hHeld => ?_); clear hK K; (try simp only [Act.put, lyA, lyB, lyC])
              refine tS 14 ?_; (try simp only [Act.put, lyA, lyB, lyC])
              refine wpAnyH_done (by kernel_rfl) ?_ _
              have HH := Lib.hid (HHj.out.only 0 rfl)
              clear HHj
              go_wp2_with fail
              go_meet
              exact ⟨_, _, rfl, HH⟩
            · go_simp
              refine (put_any f _ 4 (by decide) rfl W3 HT.out.f0 HT.out.f1).mono ?_
              rintro e W4 ⟨v, rfl, hown, ee⟩
              obtain ⟨AQ, cQ, rfl, _, _, _⟩ := own_form hown
              have HH4 := Lib.hid (HH3.out.addRow ee hown)
              clear HH3 hown ee
              go_wp2_with fail
              refine hK.out _ _ (HH4.out.only 4 rfl) (fun hHeld => ?_)
              clear hK K
              (try simp only [Act.put, lyA, lyB, lyC])
              clear hHeld
              refine twoH 1 10 rfl rfl (by kernel_rfl) (by kernel_rfl) (by kernel_rfl) (fun K hK => ?_) (fun K hK => ?_)
              · refine sh_mark Tryz.underlying33 Tryz.underlying5 HH4.out rfl rfl 3 rfl ?_
                intro W5 hm
                have HH5 := Lib.hid hm
                clear HH4 hm
                refine hK.out _ _ (HH5.out.only 4 rfl) (fun hHeld => ?_)
                clear hK K
                (try simp only [Act.put, lyA, lyB, lyC])
                clear hHeld
                refine oS 10 (fun K hK => ?_)
                go_simp
                refine (put_any o _ 4 (by decide) rfl W5 HT.out.o0 HT.out.o1).mono ?_
                rintro e W6 ⟨v, rfl, hown, ee⟩
                obtain ⟨AR, cR, rfl, _, _, _⟩ := own_form hown
                have HH6 := Lib.hid (HH5.out.addRow ee hown)
                clear HH5 hown ee
                go_wp2_with fail
                refine hK.out _ _ (HH6.out.only 5 rfl) (fun hHeld => ?_)
                clear hK K
                (try simp only [Act.put, lyA, lyB, lyC])
                clear hHeld
                refine oS 12 (fun K hK => ?_)
                go_simp; generalize hwA : World.alloc _ _ = W7; have HH7 := Lib.hid ((HH6).out.allocE hwA); clear hwA HH6
                refine hK.out _ _ ((HH7).out.only 6 rfl) (fun hHeld => ?_); clear hK K; (try simp only [Act.put, lyA, lyB, lyC]); clear hHeld
                refine oS 13 (fun K hK => ?_)
                go_simp
                refine (HTl.out W7 (some ⟨W0.heap.size, 0, none⟩) AP AQ AR (some ⟨W1.heap.size, 0, none⟩) cP cQ cR _ ((HH7.out.boxRd 0 rfl).m0) ((HH7.out.rdAt 5 rfl).m0) ((HH7.out.rowRd 3 rfl).m0) ((HH7.out.rowRd 2 rfl).m0) ((HH7.out.rowRd 1 rfl).m0) ((HH7.out.rowRd 4 rfl).m0)).mono ?_
                rintro e Wj ⟨v, rfl, hown, ee⟩
                obtain ⟨AJ, cJ, rfl, _, _, _⟩ := own_form hown
                have HHj := Lib.hid (HH7.out.addRow ee hown)
                clear HH7 hown ee
                go_wp2_with fail
                refine hK.out _ _ ((HHj).out.only 7 rfl) (fun hHeld => ?_); clear hK K; (try simp only [Act.put, lyA, lyB, lyC])
                refine tS 14 ?_; (try simp only [Act.put, lyA, lyB, lyC])
                refine wpAnyH_done (by kernel_rfl) ?_ _
                have HH := Lib.hid (HHj.out.only 0 rfl)
                clear HHj
                go_wp2_with fail
                go_meet
                exact ⟨_, _, rfl, HH⟩
              · go_simp
                refine (put_any o _ 4 (by decide) rfl W4 HT.out.o0 HT.out.o1).mono ?_
                rintro e W5 ⟨v, rfl, hown, ee⟩
                obtain ⟨AR, cR, rfl, _, _, _⟩ := own_form hown
                have HH5 := Lib.hid (HH4.out.addRow ee hown)
                clear HH4 hown ee
                go_wp2_with fail
                refine hK.out _ _ (HH5.out.only 5 rfl) (fun hHeld => ?_)
                clear hK K
                (try simp only [Act.put, lyA, lyB, lyC])
                clear hHeld
                refine oS 1 (fun K hK => ?_)
                refine sh_mark Tryz.underlying33 Tryz.underlying5 HH5.out rfl rfl 4 rfl ?_
                intro W6 hm
                have HH6 := Lib.hid hm
                clear HH5 hm
                refine hK.out _ _ (HH6.out.only 5 rfl) (fun hHeld => ?_)
                clear hK K
                (try simp only [Act.put, lyA, lyB, lyC])
                clear hHeld
                refine oS 12 (fun K hK => ?_)
                go_simp; generalize hwA : World.alloc _ _ = W7; have HH7 := Lib.hid ((HH6).out.allocE hwA); clear hwA HH6
                refine hK.out _ _ ((HH7).out.only 6 rfl) (fun hHeld => ?_); clear hK K; (try simp only [Act.put, lyA, lyB, lyC]); clear hHeld
                refine oS 13 (fun K hK => ?_)
                go_simp
                refine (HTl.out W7 (some ⟨W0.heap.size, 0, none⟩) AP AQ AR (some ⟨W1.heap.size, 0, none⟩) cP cQ cR _ ((HH7.out.boxRd 0 rfl).m0) ((HH7.out.rdAt 5 rfl).m0) ((HH7.out.rowRd 3 rfl).m0) ((HH7.out.rowRd 2 rfl).m0) ((HH7.out.rowRd 1 rfl).m0) ((HH7.out.rowRd 4 rfl).m0)).mono ?_
                rintro e Wj ⟨v, rfl, hown, ee⟩
                obtain ⟨AJ, cJ, rfl, _, _, _⟩ := own_form hown
                have HHj := Lib.hid (HH7.out.addRow ee hown)
                clear HH7 hown ee
                go_wp2_with fail
                refine hK.out _ _ ((HHj).out.only 7 rfl) (fun hHeld => ?_); clear hK K; (try simp only [Act.put, lyA, lyB, lyC])
                refine tS 14 ?_; (try simp only [Act.put, lyA, lyB, lyC])
                refine wpAnyH_done (by kernel_rfl) ?_ _
                have HH := Lib.hid (HHj.out.only 0 rfl)
                clear HHj
                go_wp2_with fail
                go_meet
                exact ⟨_, _, rfl, HH⟩
      · go_simp
        refine (put_any t _ 8 (by decide) rfl W0 HT.out.t0 HT.out.t1).mono ?_
        rintro e W1 ⟨v, rfl, hown, ee⟩
        obtain ⟨AP, cP, rfl, _, _, _⟩ := own_form hown
        have HH1 := Lib.hid (HH0.out.addRow ee hown)
        clear HH0 hown ee
        go_wp2_with fail
        refine hK.out _ _ (HH1.out.only 1 rfl) (fun hHeld => ?_)
        clear hK K
        (try simp only [Act.put, lyA, lyB, lyC])
        clear hHeld
        refine threeH 0 7 11 rfl rfl rfl (by kernel_rfl) (by kernel_rfl) (by kernel_rfl) (by kernel_rfl) (fun K hK => ?_) (fun K hK => ?_) (fun K hK => ?_)
        · go_simp
          generalize hwA : World.alloc _ _ = W2
          have HH2 := Lib.hid (HH1.out.allocRow hwA (n := 4) (size := 1) rfl (by simp only [maxLen]; omega))
          clear hwA HH1
          refine hK.out _ _ (HH2.out.only 2 rfl) (fun hHeld => ?_)
          clear hK K
          (try simp only [Act.put, lyA, lyB, lyC])
          clear hHeld
          refine threeH 1 7 11 rfl rfl rfl (by kernel_rfl) (by kernel_rfl) (by kernel_rfl) (by kernel_rfl) (fun K hK => ?_) (fun K hK => ?_) (fun K hK => ?_)
          · refine sh_mark Tryz.underlying33 Tryz.underlying5 HH2.out rfl rfl 0 rfl ?_
            intro W3 hm
            have HH3 := Lib.hid hm
            clear HH2 hm
            refine hK.out _ _ (HH3.out.only 2 rfl) (fun hHeld => ?_)
            clear hK K
            (try simp only [Act.put, lyA, lyB, lyC])
            clear hHeld
            refine twoH 7 11 rfl rfl (by kernel_rfl) (by kernel_rfl) (by kernel_rfl) (fun K hK => ?_) (fun K hK => ?_)
            · go_simp
              refine (put_any f _ 4 (by decide) rfl W3 HT.out.f0 HT.out.f1).mono ?_
              rintro e W4 ⟨v, rfl, hown, ee⟩
              obtain ⟨AQ, cQ, rfl, _, _, _⟩ := own_form hown
              have HH4 := Lib.hid (HH3.out.addRow ee hown)
              clear HH3 hown ee
              go_wp2_with fail
              refine hK.out _ _ (HH4.out.only 3 rfl) (fun hHeld => ?_)
              clear hK K
              (try simp only [Act.put, lyA, lyB, lyC])
              clear hHeld
              refine twoH 10 11 rfl rfl (by kernel_rfl) (by kernel_rfl) (by kernel_rfl) (fun K hK => ?_) (fun K hK => ?_)
              · go_simp
                refine (put_any o _ 4 (by decide) rfl W4 HT.out.o0 HT.out.o1).mono ?_
                rintro e W5 ⟨v, rfl, hown, ee⟩
                obtain ⟨AR, cR, rfl, _, _, _⟩ := own_form hown
                have HH5 := Lib.hid (HH4.out.addRow ee hown)
                clear HH4 hown ee
                go_wp2_with fail
                refine hK.out _ _ (HH5.out.only 4 rfl) (fun hHeld => ?_)
                clear hK K
                (try simp only [Act.put, lyA, lyB, lyC])
                clear hHeld
                refine oS 11 (fun K hK => ?_)
                go_simp
                generalize hwA : World.alloc _ _ = W6
                have HH6 := Lib.hid (HH5.out.allocRow hwA (n := 12) (size := 1) (by simp [bytes]) (by simp only [maxLen]; omega))
                clear hwA HH5
                refine hK.out _ _ (HH6.out.only 5 rfl) (fun hHeld => ?_)
                clear hK K
                (try simp only [Act.put, lyA, lyB, lyC])
                clear hHeld
                refine oS 12 (fun K hK => ?_)
                go_simp; generalize hwA : World.alloc _ _ = W7; have HH7 := Lib.hid ((HH6).out.allocE hwA); clear hwA HH6
                refine hK.out _ _ ((HH7).out.only 6 rfl) (fun hHeld => ?_); clear hK K; (try simp only [Act.put, lyA, lyB, lyC]); clear hHeld
                refine oS 13 (fun K hK => ?_)
                go_simp
                refine (HTl.out W7 (some ⟨W1.heap.size, 0, none⟩) AP AQ AR (some ⟨W5.heap.size, 0, none⟩) cP cQ cR _ ((HH7.out.boxRd 0 rfl).m0) ((HH7.out.rdAt 4 rfl).m0) ((HH7.out.rowRd 5 rfl).m0) ((HH7.out.rowRd 3 rfl).m0) ((HH7.out.rowRd 2 rfl).m0) ((HH7.out.rowRd 1 rfl).m0)).mono ?_
                rintro e Wj ⟨v, rfl, hown, ee⟩
                obtain ⟨AJ, cJ, rfl, _, _, _⟩ := own_form hown
                have HHj := Lib.hid (HH7.out.addRow ee hown)
                clear HH7 hown ee
                go_wp2_with fail
                refine hK.out _ _ ((HHj).out.only 7 rfl) (fun hHeld => ?_); clear hK K; (try simp only [Act.put, lyA, lyB, lyC])
                refine tS 14 ?_; (try simp only [Act.put, lyA, lyB, lyC])
                refine wpAnyH_done (by kernel_rfl) ?_ _
                have HH := Lib.hid (HHj.out.only 0 rfl)
                clear HHj
                go_wp2_with fail
                go_meet
                exact ⟨_, _, rfl, HH⟩
              · go_simp
                generalize hwA : World.alloc _ _ = W5
                have HH5 := Lib.hid (HH4.out.allocRow hwA (n := 12) (size := 1) (by simp [bytes]) (by simp only [maxLen]; omega))
                clear hwA HH4
                refine hK.out _ _ (HH5.out.only 4 rfl) (fun hHeld => ?_)
                clear hK K
                (try simp only [Act.put, lyA, lyB, lyC])
                clear hHeld
                refine oS 10 (fun K hK => ?_)
                go_simp
                refine (put_any o _ 4 (by decide) rfl W5 HT.out.o0 HT.out.o1).mono ?_
                rintro e W6 ⟨v, rfl, hown, ee⟩
                obtain ⟨AR, cR, rfl, _, _, _⟩ := own_form hown
                have HH6 := Lib.hid (HH5.out.addRow ee hown)
                clear HH5 hown ee
                go_wp2_with fail
                refine hK.out _ _ (HH6.out.only 5 rfl) (fun hHeld => ?_)
                clear hK K
                (try simp only [Act.put, lyA, lyB, lyC])
                clear hHeld
                refine oS 12 (fun K hK => ?_)
                go_simp; generalize hwA : World.alloc _ _ = W7; have HH7 := Lib.hid ((HH6).out.allocE hwA); clear hwA HH6
                refine hK.out _ _ ((HH7).out.only 6 rfl) (fun hHeld => ?_); clear hK K; (try simp only [Act.put, lyA, lyB, lyC]); clear hHeld
                refine oS 13 (fun K hK => ?_)
                go_simp
                refine (HTl.out W7 (some ⟨W1.heap.size, 0, none⟩) AP AQ AR (some ⟨W4.heap.size, 0, none⟩) cP cQ cR _ ((HH7.out.boxRd 0 rfl).m0) ((HH7.out.rdAt 4 rfl).m0) ((HH7.out.rowRd 5 rfl).m0) ((HH7.out.rowRd 3 rfl).m0) ((HH7.out.rowRd 1 rfl).m0) ((HH7.out.rowRd 2 rfl).m0)).mono ?_
                rintro e Wj ⟨v, rfl, hown, ee⟩
                obtain ⟨AJ, cJ, rfl, _, _, _⟩ := own_form hown
                have HHj := Lib.hid (HH7.out.addRow ee hown)
                clear HH7 hown ee
                go_wp2_with fail
                refine hK.out _ _ ((HHj).out.only 7 rfl) (fun hHeld => ?_); clear hK K; (try simp only [Act.put, lyA, lyB, lyC])
                refine tS 14 ?_; (try simp only [Act.put, lyA, lyB, lyC])
                refine wpAnyH_done (by kernel_rfl) ?_ _
                have HH := Lib.hid (HHj.out.only 0 rfl)
                clear HHj
                go_wp2_with fail
                go_meet
                exact ⟨_, _, rfl, HH⟩
            · go_simp
              generalize hwA : World.alloc _ _ = W4
              have HH4 := Lib.hid (HH3.out.allocRow hwA (n := 12) (size := 1) (by simp [bytes]) (by simp only [maxLen]; omega))
              clear hwA HH3
              refine hK.out _ _ (HH4.out.only 3 rfl) (fun hHeld => ?_)
              clear hK K
              (try simp only [Act.put, lyA, lyB, lyC])
              clear hHeld
              refine oS 7 (fun K hK => ?_)
              go_simp
              refine (put_any f _ 4 (by decide) rfl W4 HT.out.f0 HT.out.f1).mono ?_
              rintro e W5 ⟨v, rfl, hown, ee⟩
              obtain ⟨AQ, cQ, rfl, _, _, _⟩ := own_form hown
              have HH5 := Lib.hid (HH4.out.addRow ee hown)
              clear HH4 hown ee
              go_wp2_with fail
              refine hK.out _ _ (HH5.out.only 4 rfl) (fun hHeld => ?_)
              clear hK K
              (try simp only [Act.put, lyA, lyB, lyC])
              clear hHeld
              refine oS 10 (fun K hK => ?_)
              go_simp
              refine (put_any o _ 4 (by decide) rfl W5 HT.out.o0 HT.out.o1).mono ?_
              rintro e W6 ⟨v, rfl, hown, ee⟩
              obtain ⟨AR, cR, rfl, _, _, _⟩ := own_form hown
              have HH6 := Lib.hid (HH5.out.addRow ee hown)
              clear HH5 hown ee
              go_wp2_with fail
              refine hK.out _ _ (HH6.out.only 5 rfl) (fun hHeld => ?_)
              clear hK K
              (try simp only [Act.put, lyA, lyB, lyC])
              clear hHeld
              refine oS 12 (fun K hK => ?_)
              go_simp; generalize hwA : World.alloc _ _ = W7; have HH7 := Lib.hid ((HH6).out.allocE hwA); clear hwA HH6
              refine hK.out _ _ ((HH7).out.only 6 rfl) (fun hHeld => ?_); clear hK K; (try simp only [Act.put, lyA, lyB, lyC]); clear hHeld
              refine oS 13 (fun K hK => ?_)
              go_simp
              refine (HTl.out W7 (some ⟨W1.heap.size, 0, none⟩) AP AQ AR (some ⟨W3.heap.size, 0, none⟩) cP cQ cR _ ((HH7.out.boxRd 0 rfl).m0) ((HH7.out.rdAt 4 rfl).m0) ((HH7.out.rowRd 5 rfl).m0) ((HH7.out.rowRd 2 rfl).m0) ((HH7.out.rowRd 1 rfl).m0) ((HH7.out.rowRd 3 rfl).m0)).mono ?_
              rintro e Wj ⟨v, rfl, hown, ee⟩
              obtain ⟨AJ, cJ, rfl, _, _, _⟩ := own_form hown
              have HHj := Lib.hid (HH7.out.addRow ee hown)
              clear HH7 hown ee
              go_wp2_with fail
              refine hK.out _ _ ((HHj).out.only 7 rfl) (fun hHeld => ?_); clear hK K; (try simp only [Act.put, lyA, lyB, lyC])
              refine tS 14 ?_; (try simp only [Act.put, lyA, lyB, lyC])
              refine wpAnyH_done (by kernel_rfl) ?_ _
              have HH := Lib.hid (HHj.out.only 0 rfl)
              clear HHj
              go_wp2_with fail
              go_meet
              exact ⟨_, _, rfl, HH⟩
          · go_simp
            refine (put_any f _ 4 (by decide) rfl W2 HT.out.f0 HT.out.f1).mono ?_
            rintro e W3 ⟨v, rfl, hown, ee⟩
            obtain ⟨AQ, cQ, rfl, _, _, _⟩ := own_form hown
            have HH3 := Lib.hid (HH2.out.addRow ee hown)
            clear HH2 hown ee
            go_wp2_with fail
            refine hK.out _ _ (HH3.out.only 3 rfl) (fun hHeld => ?_)
            clear hK K
            (try simp only [Act.put, lyA, lyB, lyC])
            clear hHeld
            refine threeH 1 10 11 rfl rfl rfl (by kernel_rfl) (by kernel_rfl) (by kernel_rfl) (by kernel_rfl) (fun K hK => ?_) (fun K hK => ?_) (fun K hK => ?_)
            · refine sh_mark Tryz.underlying33 Tryz.underlying5 HH3.out rfl rfl 1 rfl ?_
              intro W4 hm
              have HH4 := Lib.hid hm
              clear HH3 hm
              refine hK.out _ _ (HH4.out.only 3 rfl) (fun hHeld => ?_)
              clear hK K
              (try simp only [Act.put, lyA, lyB, lyC])
              clear hHeld
              refine twoH 10 11 rfl rfl (by kernel_rfl) (by kernel_rfl) (by kernel_rfl) (fun K hK => ?_) (fun K hK => ?_)
              · go_simp
                refine (put_any o _ 4 (by decide) rfl W4 HT.out.o0 HT.out.o1).mono ?_
                rintro e W5 ⟨v, rfl, hown, ee⟩
                obtain ⟨AR, cR, rfl, _, _, _⟩ := own_form hown
                have HH5 := Lib.hid (HH4.out.addRow ee hown)
                clear HH4 hown ee
                go_wp2_with fail
                refine hK.out _ _ (HH5.out.only 4 rfl) (fun hHeld => ?_)
                clear hK K
                (try simp only [Act.put, lyA, lyB, lyC])
                clear hHeld
                refine oS 11 (fun K hK => ?_)
                go_simp
                generalize hwA : World.alloc _ _ = W6
                have HH6 := Lib.hid (HH5.out.allocRow hwA (n := 12) (size := 1) (by simp [bytes]) (by simp only [maxLen]; omega))
                clear hwA HH5
                refine hK.out _ _ (HH6.out.only 5 rfl) (fun hHeld => ?_)
                clear hK K
                (try simp only [Act.put, lyA, lyB, lyC])
                clear hHeld
                refine oS 12 (fun K hK => ?_)
                go_simp; generalize hwA : World.alloc _ _ = W7; have HH7 := Lib.hid ((HH6).out.allocE hwA); clear hwA HH6
                refine hK.out _ _ ((HH7).out.only 6 rfl) (fun hHeld => ?_); clear hK K; (try simp only [Act.put, lyA, lyB, lyC]); clear hHeld
                refine oS 13 (fun K hK => ?_)
                go_simp
                refine (HTl.out W7 (some ⟨W1.heap.size, 0, none⟩) AP AQ AR (some ⟨W5.heap.size, 0, none⟩) cP cQ cR _ ((HH7.out.boxRd 0 rfl).m0) ((HH7.out.rdAt 4 rfl).m0) ((HH7.out.rowRd 5 rfl).m0) ((HH7.out.rowRd 3 rfl).m0) ((HH7.out.rowRd 2 rfl).m0) ((HH7.out.rowRd 1 rfl).m0)).mono ?_
                rintro e Wj ⟨v, rfl, hown, ee⟩
                obtain ⟨AJ, cJ, rfl, _, _, _⟩ := own_form hown
                have HHj := Lib.hid (HH7.out.addRow ee hown)
                clear HH7 hown ee
                go_wp2_with fail
                refine hK.out _ _ ((HHj).out.only 7 rfl) (fun hHeld => ?_); clear hK K; (try simp only [Act.put, lyA, lyB, lyC])
                refine tS 14 ?_; (try simp only [Act.put, lyA, lyB, lyC])
                refine wpAnyH_done (by kernel_rfl) ?_ _
                have HH := Lib.hid (HHj.out.only 0 rfl)
                clear HHj
                go_wp2_with fail
                go_meet
                exact ⟨_, _, rfl, HH⟩
              · go_simp
                generalize hwA : World.alloc _ _ = W5
                have HH5 := Lib.hid (HH4.out.allocRow hwA (n := 12) (size := 1) (by simp [bytes]) (by simp only [maxLen]; omega))
                clear hwA HH4
                refine hK.out _ _ (HH5.out.only 4 rfl) (fun hHeld => ?_)
                clear hK K
                (try simp only [Act.put, lyA, lyB, lyC])
                clear hHeld
                refine oS 10 (fun K hK => ?_)
                go_simp
                refine (put_any o _ 4 (by decide) rfl W5 HT.out.o0 HT.out.o1).mono ?_
                rintro e W6 ⟨v, rfl, hown, ee⟩
                obtain ⟨AR, cR, rfl, _, _, _⟩ := own_form hown
                have HH6 := Lib.hid (HH5.out.addRow ee hown)
                clear HH5 hown ee
                go_wp2_with fail
                refine hK.out _ _ (HH6.out.only 5 rfl) (fun hHeld => ?_)
                clear hK K
                (try simp only [Act.put, lyA, lyB, lyC])
                clear hHeld
                refine oS 12 (fun K hK => ?_)
                go_simp; generalize hwA : World.alloc _ _ = W7; have HH7 := Lib.hid ((HH6).out.allocE hwA); clear hwA HH6
                refine hK.out _ _ ((HH7).out.only 6 rfl) (fun hHeld => ?_); clear hK K; (try simp only [Act.put, lyA, lyB, lyC]); clear hHeld
                refine oS 13 (fun K hK => ?_)
                go_simp
                refine (HTl.out W7 (some ⟨W1.heap.size, 0, none⟩) AP AQ AR (some ⟨W4.heap.size, 0, none⟩) cP cQ cR _ ((HH7.out.boxRd 0 rfl).m0) ((HH7.out.rdAt 4 rfl).m0) ((HH7.out.rowRd 5 rfl).m0) ((HH7.out.rowRd 3 rfl).m0) ((HH7.out.rowRd 1 rfl).m0) ((HH7.out.rowRd 2 rfl).m0)).mono ?_
                rintro e Wj ⟨v, rfl, hown, ee⟩
                obtain ⟨AJ, cJ, rfl, _, _, _⟩ := own_form hown
                have HHj := Lib.hid (HH7.out.addRow ee hown)
                clear HH7 hown ee
                go_wp2_with fail
                refine hK.out _ _ ((HHj).out.only 7 rfl) (fun hHeld => ?_); clear hK K; (try simp only [Act.put, lyA, lyB, lyC])
                refine tS 14 ?_; (try simp only [Act.put, lyA, lyB, lyC])
                refine wpAnyH_done (by kernel_rfl) ?_ _
                have HH := Lib.hid (HHj.out.only 0 rfl)
                clear HHj
                go_wp2_with fail
                go_meet
                exact ⟨_, _, rfl, HH⟩
            · go_simp
              refine (put_any o _ 4 (by decide) rfl W3 HT.out.o0 HT.out.o1).mono ?_
              rintro e W4 ⟨v, rfl, hown, ee⟩
              obtain ⟨AR, cR, rfl, _, _, _⟩ := own_form hown
              have HH4 := Lib.hid (HH3.out.addRow ee hown)
              clear HH3 hown ee
              go_wp2_with fail
              refine hK.out _ _ (HH4.out.only 4 rfl) (fun hHeld => ?_)
              clear hK K
              (try simp only [Act.put, lyA, lyB, lyC])
              clear hHeld
              refine twoH 1 11 rfl rfl (by kernel_rfl) (by kernel_rfl) (by kernel_rfl) (fun K hK => ?_) (fun K hK => ?_)
              · refine sh_mark Tryz.underlying33 Tryz.underlying5 HH4.out rfl rfl 2 rfl ?_
                intro W5 hm
                have HH5 := Lib.hid hm
                clear HH4 hm
                refine hK.out _ _ (HH5.out.only 4 rfl) (fun hHeld => ?_)
                clear hK K
                (try simp only [Act.put, lyA, lyB, lyC])
                clear hHeld
                refine oS 11 (fun K hK => ?_)
                go_simp
                generalize hwA : World.alloc _ _ = W6
                have HH6 := Lib.hid (HH5.out.allocRow hwA (n := 12) (size := 1) (by simp [bytes]) (by simp only [maxLen]; omega))
                clear hwA HH5
                refine hK.out _ _ (HH6.out.only 5 rfl) (fun hHeld => ?_)
                clear hK K
                (try simp only [Act.put, lyA, lyB, lyC])
                clear hHeld
                refine oS 12 (fun K hK => ?_)
                go_simp; generalize hwA : World.alloc _ _ = W7; have HH7 := Lib.hid ((HH6).out.allocE hwA); clear hwA HH6
                refine hK.out _ _ ((HH7).out.only 6 rfl) (fun hHeld => ?_); clear hK K; (try simp only [Act.put, lyA, lyB, lyC]); clear hHeld
                refine oS 13 (fun K hK => ?_)
                go_simp
                refine (HTl.out W7 (some ⟨W1.heap.size, 0, none⟩) AP AQ AR (some ⟨W5.heap.size, 0, none⟩) cP cQ cR _ ((HH7.out.boxRd 0 rfl).m0) ((HH7.out.rdAt 4 rfl).m0) ((HH7.out.rowRd 5 rfl).m0) ((HH7.out.rowRd 3 rfl).m0) ((HH7.out.rowRd 2 rfl).m0) ((HH7.out.rowRd 1 rfl).m0)).mono ?_
                rintro e Wj ⟨v, rfl, hown, ee⟩
                obtain ⟨AJ, cJ, rfl, _, _, _⟩ := own_form hown
                have HHj := Lib.hid (HH7.out.addRow ee hown)
                clear HH7 hown ee
                go_wp2_with fail
                refine hK.out _ _ ((HHj).out.only 7 rfl) (fun hHeld => ?_); clear hK K; (try simp only [Act.put, lyA, lyB, lyC])
                refine tS 14 ?_; (try simp only [Act.put, lyA, lyB, lyC])
                refine wpAnyH_done (by kernel_rfl) ?_ _
                have HH := Lib.hid (HHj.out.only 0 rfl)
                clear HHj
                go_wp2_with fail
                go_meet
                exact ⟨_, _, rfl, HH⟩
              · go_simp
                generalize hwA : World.alloc _ _ = W5
                have HH5 := Lib.hid (HH4.out.allocRow hwA (n := 12) (size := 1) (by simp [bytes]) (by simp only [maxLen]; omega))
                clear hwA HH4
                refine hK.out _ _ (HH5.out.only 5 rfl) (fun hHeld => ?_)
                clear hK K
                (try simp only [Act.put, lyA, lyB, lyC])
                clear hHeld
                refine oS 1 (fun K hK => ?_)
                refine sh_mark Tryz.underlying33 Tryz.underlying5 HH5.out rfl rfl 3 rfl ?_
                intro W6 hm
                have HH6 := Lib.hid hm
                clear HH5 hm
                refine hK.out _ _ (HH6.out.only 5 rfl) (fun hHeld => ?_)
                clear hK K
                (try simp only [Act.put, lyA, lyB, lyC])
                clear hHeld
                refine oS 12 (fun K hK => ?_)
                go_simp; generalize hwA : World.alloc _ _ = W7; have HH7 := Lib.hid ((HH6).out.allocE hwA); clear hwA HH6
                refine hK.out _ _ ((HH7).out.only 6 rfl) (fun hHeld => ?_); clear hK K; (try simp only [Act.put, lyA, lyB, lyC]); clear hHeld
                refine oS 13 (fun K hK => ?_)
                go_simp
                refine (HTl.out W7 (some ⟨W1.heap.size, 0, none⟩) AP AQ AR (some ⟨W4.heap.size, 0, none⟩) cP cQ cR _ ((HH7.out.boxRd 0 rfl).m0) ((HH7.out.rdAt 4 rfl).m0) ((HH7.out.rowRd 5 rfl).m0) ((HH7.out.rowRd 3 rfl).m0) ((HH7.out.rowRd 2 rfl).m0) ((HH7.out.rowRd 1 rfl).m0)).mono ?_
                rintro e Wj ⟨v, rfl, hown, ee⟩
                obtain ⟨AJ, cJ, rfl, _, _, _⟩ := own_form hown
                have HHj := Lib.hid (HH7.out.addRow ee hown)
                clear HH7 hown ee
                go_wp2_with fail
                refine hK.out _ _ ((HHj).out.only 7 rfl) (fun hHeld => ?_); clear hK K; (try simp only [Act.put, lyA, lyB, lyC])
                refine tS 14 ?_; (try simp only [Act.put, lyA, lyB, lyC])
                refine wpAnyH_done (by kernel_rfl) ?_ _
                have HH := Lib.hid (HHj.out.only 0 rfl)
                clear HHj
                go_wp2_with fail
                go_meet
                exact ⟨_, _, rfl, HH⟩
            · go_simp
              generalize hwA : World.alloc _ _ = W4
              have HH4 := Lib.hid (HH3.out.allocRow hwA (n := 12) (size := 1) (by simp [bytes]) (by simp only [maxLen]; omega))
              clear hwA HH3
              refine hK.out _ _ (HH4.out.only 4 rfl) (fun hHeld => ?_)
              clear hK K
              (try simp only [Act.put, lyA, lyB, lyC])
              clear hHeld
              refine twoH 1 10 rfl rfl (by kernel_rfl) (by kernel_rfl) (by kernel_rfl) (fun K hK => ?_) (fun K hK => ?_)
              · refine sh_mark Tryz.underlying33 Tryz.underlying5 HH4.out rfl rfl 2 rfl ?_
                intro W5 hm
                have HH5 := Lib.hid hm
                clear HH4 hm
                refine hK.out _ _ (HH5.out.only 4 rfl) (fun hHeld => ?_)
                clear hK K
                (try simp only [Act.put, lyA, lyB, lyC])
                clear hHeld
                refine oS 10 (fun K hK => ?_)
                go_simp
                refine (put_any o _ 4 (by decide) rfl W5 HT.out.o0 HT.out.o1).mono ?_
                rintro e W6 ⟨v, rfl, hown, ee⟩
                obtain ⟨AR, cR, rfl, _, _, _⟩ := own_form hown
                have HH6 := Lib.hid (HH5.out.addRow ee hown)
                clear HH5 hown ee
                go_wp2_with fail
                refine hK.out _ _ (HH6.out.only 5 rfl) (fun hHeld => ?_)
                clear hK K
                (try simp only [Act.put, lyA, lyB, lyC])
                clear hHeld
                refine oS 12 (fun K hK => ?_)
                go_simp; generalize hwA : World.alloc _ _ = W7; have HH7 := Lib.hid ((HH6).out.allocE hwA); clear hwA HH6
                refine hK.out _ _ ((HH7).out.only 6 rfl) (fun hHeld => ?_); clear hK K; (try simp only [Act.put, lyA, lyB, lyC]); clear hHeld
                refine oS 13 (fun K hK => ?_)
                go_simp
                refine (HTl.out W7 (some ⟨W1.heap.size, 0, none⟩) AP AQ AR (some ⟨W3.heap.size, 0, none⟩) cP cQ cR _ ((HH7.out.boxRd 0 rfl).m0) ((HH7.out.rdAt 4 rfl).m0) ((HH7.out.rowRd 5 rfl).m0) ((HH7.out.rowRd 3 rfl).m0) ((HH7.out.rowRd 1 rfl).m0) ((HH7.out.rowRd 2 rfl).m0)).mono ?_
                rintro e Wj ⟨v, rfl, hown, ee⟩
                obtain ⟨AJ, cJ, rfl, _, _, _⟩ := own_form hown
                have HHj := Lib.hid (HH7.out.addRow ee hown)
                clear HH7 hown ee
                go_wp2_with fail
                refine hK.out _ _ ((HHj).out.only 7 rfl) (fun hHeld => ?_); clear hK K; (try simp only [Act.put, lyA, lyB, lyC])
                refine tS 14 ?_; (try simp only [Act.put, lyA, lyB, lyC])
                refine wpAnyH_done (by kernel_rfl) ?_ _
                have HH := Lib.hid (HHj.out.only 0 rfl)
                clear HHj
                go_wp2_with fail
                go_meet
                exact ⟨_, _, rfl, HH⟩
              · go_simp
                refine (put_any o _ 4 (by decide) rfl W4 HT.out.o0 HT.out.o1).mono ?_
                rintro e W5 ⟨v, rfl, hown, ee⟩
                obtain ⟨AR, cR, rfl, _, _, _⟩ := own_form hown
                have HH5 := Lib.hid (HH4.out.addRow ee hown)
                clear HH4 hown ee
                go_wp2_with fail
                refine hK.out _ _ (HH5.out.only 5 rfl) (fun hHeld => ?_)
                clear hK K
                (try simp only [Act.put, lyA, lyB, lyC])
                clear hHeld
                refine oS 1 (fun K hK => ?_)
                refine sh_mark Tryz.underlying33 Tryz.underlying5 HH5.out rfl rfl 3 rfl ?_
                intro W6 hm
                have HH6 := Lib.hid hm
                clear HH5 hm
                refine hK.out _ _ (HH6.out.only 5 rfl) (fun hHeld => ?_)
                clear hK K
                (try simp only [Act.put, lyA, lyB, lyC])
                clear hHeld
                refine oS 12 (fun K hK => ?_)
                go_simp; generalize hwA : World.alloc _ _ = W7; have HH7 := Lib.hid ((HH6).out.allocE hwA); clear hwA HH6
                refine hK.out _ _ ((HH7).out.only 6 rfl) (fun hHeld => ?_); clear hK K; (try simp only [Act.put, lyA, lyB, lyC]); clear hHeld
                refine oS 13 (fun K hK => ?_)
                go_simp
                refine (HTl.out W7 (some ⟨W1.heap.size, 0, none⟩) AP AQ AR (some ⟨W3.heap.size, 0, none⟩) cP cQ cR _ ((HH7.out.boxRd 0 rfl).m0) ((HH7.out.rdAt 4 rfl).m0) ((HH7.out.rowRd 5 rfl).m0) ((HH7.out.rowRd 3 rfl).m0) ((HH7.out.rowRd 1 rfl).m0) ((HH7.out.rowRd 2 rfl).m0)).mono ?_
                rintro e Wj ⟨v, rfl, hown, ee⟩
                obtain ⟨AJ, cJ, rfl, _, _, _⟩ := own_form hown
                have HHj := Lib.hid (HH7.out.addRow ee hown)
                clear HH7 hown ee
                go_wp2_with fail
                refine hK.out _ _ ((HHj).out.only 7 rfl) (fun hHeld => ?_); clear hK K; (try simp only [Act.put, lyA, lyB, lyC])
                refine tS 14 ?_; (try simp only [Act.put, lyA, lyB, lyC])
                refine wpAnyH_done (by kernel_rfl) ?_ _
                have HH := Lib.hid (HHj.out.only 0 rfl)
                clear HHj
                go_wp2_with fail
                go_meet
                exact ⟨_, _, rfl, HH⟩
          · go_simp
            generalize hwA : World.alloc _ _ = W3
            have HH3 := Lib.hid (HH2.out.allocRow hwA (n := 12) (size := 1) (by simp [bytes]) (by simp only [maxLen]; omega))
            clear hwA HH2
            refine hK.out _ _ (HH3.out.only 3 rfl) (fun hHeld => ?_)
            clear hK K
            (try simp only [Act.put, lyA, lyB, lyC])
            clear hHeld
            refine twoH 1 7 rfl rfl (by kernel_rfl) (by kernel_rfl) (by kernel_rfl) (fun K hK => ?_) (fun K hK => ?_)
            · refine sh_mark Tryz.underlying33 Tryz.underlying5 HH3.out rfl rfl 1 rfl ?_
              intro W4 hm
              have HH4 := Lib.hid hm
              clear HH3 hm
              refine hK.out _ _ (HH4.out.only 3 rfl) (fun hHeld => ?_)
              clear hK K
              (try simp only [Act.put, lyA, lyB, lyC])
              clear hHeld
              refine oS 7 (fun K hK => ?_)
              go_simp
              refine (put_any f _ 4 (by decide) rfl W4 HT.out.f0 HT.out.f1).mono ?_
              rintro e W5 ⟨v, rfl, hown, ee⟩
              obtain ⟨AQ, cQ, rfl, _, _, _⟩ := own_form hown
              have HH5 := Lib.hid (HH4.out.addRow ee hown)
              clear HH4 hown ee
              go_wp2_with fail
              refine hK.out _ _ (HH5.out.only 4 rfl) (fun hHeld => ?_)
              clear hK K
              (try simp only [Act.put, lyA, lyB, lyC])
              clear hHeld
              refine oS 10 (fun K hK => ?_)
              go_simp
              refine (put_any o _ 4 (by decide) rfl W5 HT.out.o0 HT.out.o1).mono ?_
              rintro e W6 ⟨v, rfl, hown, ee⟩
              obtain ⟨AR, cR, rfl, _, _, _⟩ := own_form hown
              have HH6 := Lib.hid (HH5.out.addRow ee hown)
              clear HH5 hown ee
              go_wp2_with fail
              refine hK.out _ _ (HH6.out.only 5 rfl) (fun hHeld => ?_)
              clear hK K
              (try simp only [Act.put, lyA, lyB, lyC])
              clear hHeld
              refine oS 12 (fun K hK => ?_)
              go_simp; generalize hwA : World.alloc _ _ = W7; have HH7 := Lib.hid ((HH6).out.allocE hwA); clear hwA HH6
              refine hK.out _ _ ((HH7).out.only 6 rfl) (fun hHeld => ?_); clear hK K; (try simp only [Act.put, lyA, lyB, lyC]); clear hHeld
              refine oS 13 (fun K hK => ?_)
              go_simp
              refine (HTl.out W7 (some ⟨W1.heap.size, 0, none⟩) AP AQ AR (some ⟨W2.heap.size, 0, none⟩) cP cQ cR _ ((HH7.out.boxRd 0 rfl).m0) ((HH7.out.rdAt 4 rfl).m0) ((HH7.out.rowRd 5 rfl).m0) ((HH7.out.rowRd 2 rfl).m0) ((HH7.out.rowRd 1 rfl).m0) ((HH7.out.rowRd 3 rfl).m0)).mono ?_
              rintro e Wj ⟨v, rfl, hown, ee⟩
              obtain ⟨AJ, cJ, rfl, _, _, _⟩ := own_form hown
              have HHj := Lib.hid (HH7.out.addRow ee hown)
              clear HH7 hown ee
              go_wp2_with fail
              refine hK.out _ _ ((HHj).out.only 7 rfl) (fun hHeld => ?_); clear hK K; (try simp only [Act.put, lyA, lyB, lyC])
              refine tS 14 ?_; (try simp only [Act.put, lyA, lyB, lyC])
              refine wpAnyH_done (by kernel_rfl) ?_ _
              have HH := Lib.hid (HHj.out.only 0 rfl)
              clear HHj
              go_wp2_with fail
              go_meet
              exact ⟨_, _, rfl, HH⟩
            · go_simp
              refine (put_any f _ 4 (by decide) rfl W3 HT.out.f0 HT.out.f1).mono ?_
              rintro e W4 ⟨v, rfl, hown, ee⟩
              obtain ⟨AQ, cQ, rfl, _, _, _⟩ := own_form hown
              have HH4 := Lib.hid (HH3.out.addRow ee hown)
              clear HH3 hown ee
              go_wp2_with fail
              refine hK.out _ _ (HH4.out.only 4 rfl) (fun hHeld => ?_)
              clear hK K
              (try simp only [Act.put, lyA, lyB, lyC])
              clear hHeld
              refine twoH 1 10 rfl rfl (by kernel_rfl) (by kernel_rfl) (by kernel_rfl) (fun K hK => ?_) (fun K hK => ?_)
              · refine sh_mark Tryz.underlying33 Tryz.underlying5 HH4.out rfl rfl 2 rfl ?_
                intro W5 hm
                have HH5 := Lib.hid hm
                clear HH4 hm
                refine hK.out _ _ (HH5.out.only 4 rfl) (fun hHeld => ?_)
                clear hK K
                (try simp only [Act.put, lyA, lyB, lyC])
                clear hHeld
                refine oS 10 (fun K hK => ?_)
                go_simp
                refine (put_any o _ 4 (by decide) rfl W5 HT.out.o0 HT.out.o1).mono ?_
                rintro e W6 ⟨v, rfl, hown, ee⟩
                obtain ⟨AR, cR, rfl, _, _, _⟩ := own_form hown
                have HH6 := Lib.hid (HH5.out.addRow ee hown)
                clear HH5 hown ee
                go_wp2_with fail
                refine hK.out _ _ (HH6.out.only 5 rfl) (fun hHeld => ?_)
                clear hK K
                (try simp only [Act.put, lyA, lyB, lyC])
                clear hHeld
                refine oS 12 (fun K hK => ?_)
                go_simp; generalize hwA : World.alloc _ _ = W7; have HH7 := Lib.hid ((HH6).out.allocE hwA); clear hwA HH6
                refine hK.out _ _ ((HH7).out.only 6 rfl) (fun hHeld => ?_); clear hK K; (try simp only [Act.put, lyA, lyB, lyC]); clear hHeld
                refine oS 13 (fun K hK => ?_)
                go_simp
                refine (HTl.out W7 (some ⟨W1.heap.size, 0, none⟩) AP AQ AR (some ⟨W2.heap.size, 0, none⟩) cP cQ cR _ ((HH7.out.boxRd 0 rfl).m0) ((HH7.out.rdAt 4 rfl).m0) ((HH7.out.rowRd 5 rfl).m0) ((HH7.out.rowRd 2 rfl).m0) ((HH7.out.rowRd 1 rfl).m0) ((HH7.out.rowRd 3 rfl).m0)).mono ?_
                rintro e Wj ⟨v, rfl, hown, ee⟩
                obtain ⟨AJ, cJ, rfl, _, _, _⟩ := own_form hown
                have HHj := Lib.hid (HH7.out.addRow ee hown)
                clear HH7 hown ee
                go_wp2_with fail
                refine hK.out _ _ ((HHj).out.only 7 rfl) (fun hHeld => ?_); clear hK K; (try simp only [Act.put, lyA, lyB, lyC])
                refine tS 14 ?_; (try simp only [Act.put, lyA, lyB, lyC])
                refine wpAnyH_done (by kernel_rfl) ?_ _
                have HH := Lib.hid (HHj.out.only 0 rfl)
                clear HHj
                go_wp2_with fail
                go_meet
                exact ⟨_, _, rfl, HH⟩
              · go_simp
                refine (put_any o _ 4 (by decide) rfl W4 HT.out.o0 HT.out.o1).mono ?_
                rintro e W5 ⟨v, rfl, hown, ee⟩
                obtain ⟨AR, cR, rfl, _, _, _⟩ := own_form hown
                have HH5 := Lib.hid (HH4.out.addRow ee hown)
                clear HH4 hown ee
                go_wp2_with fail
                refine hK.out _ _ (HH5.out.only 5 rfl) (fun hHeld => ?_)
                clear hK K
                (try simp only [Act.put, lyA, lyB, lyC])
                clear hHeld
                refine oS 1 (fun K hK => ?_)
                refine sh_mark Tryz.underlying33 Tryz.underlying5 HH5.out rfl rfl 3 rfl ?_
                intro W6 hm
                have HH6 := Lib.hid hm
                clear HH5 hm
                refine hK.out _ _ (HH6.out.only 5 rfl) (fun hHeld => ?_)
                clear hK K
                (try simp only [Act.put, lyA, lyB, lyC])
                clear hHeld
                refine oS 12 (fun K hK => ?_)
                go_simp; generalize hwA : World.alloc _ _ = W7; have HH7 := Lib.hid ((HH6).out.allocE hwA); clear hwA HH6
                refine hK.out _ _ ((HH7).out.only 6 rfl) (fun hHeld => ?_); clear hK K; (try simp only [Act.put, lyA, lyB, lyC]); clear hHeld
                refine oS 13 (fun K hK => ?_)
                go_simp
                refine (HTl.out W7 (some ⟨W1.heap.size, 0, none⟩) AP AQ AR (some ⟨W2.heap.size, 0, none⟩) cP cQ cR _ ((HH7.out.boxRd 0 rfl).m0) ((HH7.out.rdAt 4 rfl).m0) ((HH7.out.rowRd 5 rfl).m0) ((HH7.out.rowRd 2 rfl).m0) ((HH7.out.rowRd 1 rfl).m0) ((HH7.out.rowRd 3 rfl).m0)).mono ?_
                rintro e Wj ⟨v, rfl, hown, ee⟩
                obtain ⟨AJ, cJ, rfl, _, _, _⟩ := own_form hown
                have HHj := Lib.hid (HH7.out.addRow ee hown)
                clear HH7 hown ee
                go_wp2_with fail
                refine hK.out _ _ ((HHj).out.only 7 rfl) (fun hHeld => ?_); clear hK K; (try simp only [Act.put, lyA, lyB, lyC])
                refine tS 14 ?_; (try simp only [Act.put, lyA, lyB, lyC])
                refine wpAnyH_done (by kernel_rfl) ?_ _
                have HH := Lib.hid (HHj.out.only 0 rfl)
                clear HHj
                go_wp2_with fail
                go_meet
                exact ⟨_, _, rfl, HH⟩
        · go_simp
          refine (put_any f _ 4 (by decide) rfl W1 HT.out.f0 HT.out.f1).mono ?_
          rintro e W2 ⟨v, rfl, hown, ee⟩
          obtain ⟨AQ, cQ, rfl, _, _, _⟩ := own_form hown
          have HH2 := Lib.hid (HH1.out.addRow ee hown)
          clear HH1 hown ee
          go_wp2_with fail
          refine hK.out _ _ (HH2.out.only 2 rfl) (fun hHeld => ?_)
          clear hK K
          (try simp only [Act.put, lyA, lyB, lyC])
          clear hHeld
          refine threeH 0 10 11 rfl rfl rfl (by kernel_rfl) (by kernel_rfl) (by kernel_rfl) (by kernel_rfl) (fun K hK => ?_) (fun K hK => ?_) (fun K hK => ?_)
          · go_simp
            generalize hwA : World.alloc _ _ = W3
            have HH3 := Lib.hid (HH2.out.allocRow hwA (n := 4) (size := 1) rfl (by simp only [maxLen]; omega))
            clear hwA HH2
            refine hK.out _ _ (HH3.out.only 3 rfl) (fun hHeld => ?_)
            clear hK K
            (try simp only [Act.put, lyA, lyB, lyC])
            clear hHeld
            refine threeH 1 10 11 rfl rfl rfl (by kernel_rfl) (by kernel_rfl) (by kernel_rfl) (by kernel_rfl) (fun K hK => ?_) (fun K hK => ?_) (fun K hK => ?_)
            · refine sh_mark Tryz.underlying33 Tryz.underlying5 HH3.out rfl rfl 0 rfl ?_
              intro W4 hm
              have HH4 := Lib.hid hm
              clear HH3 hm
              refine hK.out _ _ (HH4.out.only 3 rfl) (fun hHeld => ?_)
              clear hK K
              (try simp only [Act.put, lyA, lyB, lyC])
              clear hHeld
              refine twoH 10 11 rfl rfl (by kernel_rfl) (by kernel_rfl) (by kernel_rfl) (fun K hK => ?_) (fun K hK => ?_)
              · go_simp
                refine (put_any o _ 4 (by decide) rfl W4 HT.out.o0 HT.out.o1).mono ?_
                rintro e W5 ⟨v, rfl, hown, ee⟩
                obtain ⟨AR, cR, rfl, _, _, _⟩ := own_form hown
                have HH5 := Lib.hid (HH4.out.addRow ee hown)
                clear HH4 hown ee
                go_wp2_with fail
                refine hK.out _ _ (HH5.out.only 4 rfl) (fun hHeld => ?_)
                clear hK K
                (try simp only [Act.put, lyA, lyB, lyC])
                clear hHeld
                refine oS 11 (fun K hK => ?_)
                go_simp
                generalize hwA : World.alloc _ _ = W6
                have HH6 := Lib.hid (HH5.out.allocRow hwA (n := 12) (size := 1) (by simp [bytes]) (by simp only [maxLen]; omega))
                clear hwA HH5
                refine hK.out _ _ (HH6.out.only 5 rfl) (fun hHeld => ?_)
                clear hK K
                (try simp only [Act.put, lyA, lyB, lyC])
                clear hHeld
                refine oS 12 (fun K hK => ?_)
                go_simp; generalize hwA : World.alloc _ _ = W7; have HH7 := Lib.hid ((HH6).out.allocE hwA); clear hwA HH6
                refine hK.out _ _ ((HH7).out.only 6 rfl) (fun hHeld => ?_); clear hK K; (try simp only [Act.put, lyA, lyB, lyC]); clear hHeld
                refine oS 13 (fun K hK => ?_)
                go_simp
                refine (HTl.out W7 (some ⟨W2.heap.size, 0, none⟩) AP AQ AR (some ⟨W5.heap.size, 0, none⟩) cP cQ cR _ ((HH7.out.boxRd 0 rfl).m0) ((HH7.out.rdAt 3 rfl).m0) ((HH7.out.rowRd 5 rfl).m0) ((HH7.out.rowRd 4 rfl).m0) ((HH7.out.rowRd 2 rfl).m0) ((HH7.out.rowRd 1 rfl).m0)).mono ?_
                rintro e Wj ⟨v, rfl, hown, ee⟩
                obtain ⟨AJ, cJ, rfl, _, _, _⟩ := own_form hown
                have HHj := Lib.hid (HH7.out.addRow ee hown)
                clear HH7 hown ee
                go_wp2_with fail
                refine hK.out _ _ ((HHj).out.only 7 rfl) (fun hHeld => ?_); clear hK K; (try simp only [Act.put, lyA, lyB, lyC])
                refine tS 14 ?_; (try simp only [Act.put, lyA, lyB, lyC])
                refine wpAnyH_done (by kernel_rfl) ?_ _
                have HH := Lib.hid (HHj.out.only 0 rfl)
                clear HHj
                go_wp2_with fail
                go_meet
                exact ⟨_, _, rfl, HH⟩
              · go_simp
                generalize hwA : World.alloc _ _ = W5
                have HH5 := Lib.hid (HH4.out.allocRow hwA (n := 12) (size := 1) (by simp [bytes]) (by simp only [maxLen]; omega))
                clear hwA HH4
                refine hK.out _ _ (HH5.out.only 4 rfl) (fun hHeld => ?_)
                clear hK K
                (try simp only [Act.put, lyA, lyB, lyC])
                clear hHeld
                refine oS 10 (fun K hK => ?_)
                go_simp
                refine (put_any o _ 4 (by decide) rfl W5 HT.out.o0 HT.out.o1).mono ?_
                rintro e W6 ⟨v, rfl, hown, ee⟩
                obtain ⟨AR, cR, rfl, _, _, _⟩ := own_form hown
                have HH6 := Lib.hid (HH5.out.addRow ee hown)
                clear HH5 hown ee
                go_wp2_with fail
                refine hK.out _ _ (HH6.out.only 5 rfl) (fun hHeld => ?_)
                clear hK K
                (try simp only [Act.put, lyA, lyB, lyC])
                clear hHeld
                refine oS 12 (fun K hK => ?_)
                go_simp; generalize hwA : World.alloc _ _ = W7; have HH7 := Lib.hid ((HH6).out.allocE hwA); clear hwA HH6
                refine hK.out _ _ ((HH7).out.only 6 rfl) (fun hHeld => ?_); clear hK K; (try simp only [Act.put, lyA, lyB, lyC]); clear hHeld
                refine oS 13 (fun K hK => ?_)
                go_simp
                refine (HTl.out W7 (some ⟨W2.heap.size, 0, none⟩) AP AQ AR (some ⟨W4.heap.size, 0, none⟩) cP cQ cR _ ((HH7.out.boxRd 0 rfl).m0) ((HH7.out.rdAt 3 rfl).m0) ((HH7.out.rowRd 5 rfl).m0) ((HH7.out.rowRd 4 rfl).m0) ((HH7.out.rowRd 1 rfl).m0) ((HH7.out.rowRd 2 rfl).m0)).mono ?_
                rintro e Wj ⟨v, rfl, hown, ee⟩
                obtain ⟨AJ, cJ, rfl, _, _, _⟩ := own_form hown
                have HHj := Lib.hid (HH7.out.addRow ee hown)
                clear HH7 hown ee
                go_wp2_with fail
                refine hK.out _ _ ((HHj).out.only 7 rfl) (fun hHeld => ?_); clear hK K; (try simp only [Act.put, lyA, lyB, lyC])
                refine tS 14 ?_; (try simp only [Act.put, lyA, lyB, lyC])
                refine wpAnyH_done (by kernel_rfl) ?_ _
                have HH := Lib.hid (HHj.out.only 0 rfl)
                clear HHj
                go_wp2_with fail
                go_meet
                exact ⟨_, _, rfl, HH⟩
            · go_simp
              refine (put_any o _ 4 (by decide) rfl W3 HT.out.o0 HT.out.o1).mono ?_
              rintro e W4 ⟨v, rfl, hown, ee⟩
              obtain ⟨AR, cR, rfl, _, _, _⟩ := own_form hown
              have HH4 := Lib.hid (HH3.out.addRow ee hown)
              clear HH3 hown ee
              go_wp2_with fail
              refine hK.out _ _ (HH4.out.only 4 rfl) (fun hHeld => ?_)
              clear hK K
              (try simp only [Act.put, lyA, lyB, lyC])
              clear hHeld
              refine twoH 1 11 rfl rfl (by kernel_rfl) (by kernel_rfl) (by kernel_rfl) (fun K hK => ?_) (fun K hK => ?_)
              · refine sh_mark Tryz.underlying33 Tryz.underlying5 HH4.out rfl rfl 1 rfl ?_
                intro W5 hm
                have HH5 := Lib.hid hm
                clear HH4 hm
                refine hK.out _ _ (HH5.out.only 4 rfl) (fun hHeld => ?_)
                clear hK K
                (try simp only [Act.put, lyA, lyB, lyC])
                clear hHeld
                refine oS 11 (fun K hK => ?_)
                go_simp
                generalize hwA : World.alloc _ _ = W6
                have HH6 := Lib.hid (HH5.out.allocRow hwA (n := 12) (size := 1) (by simp [bytes]) (by simp only [maxLen]; omega))
                clear hwA HH5
                refine hK.out _ _ (HH6.out.only 5 rfl) (fun hHeld => ?_)
                clear hK K
                (try simp only [Act.put, lyA, lyB, lyC])
                clear hHeld
                refine oS 12 (fun K hK => ?_)
                go_simp; generalize hwA : World.alloc _ _ = W7; have HH7 := Lib.hid ((HH6).out.allocE hwA); clear hwA HH6
                refine hK.out _ _ ((HH7).out.only 6 rfl) (fun hHeld => ?_); clear hK K; (try simp only [Act.put, lyA, lyB, lyC]); clear hHeld
                refine oS 13 (fun K hK => ?_)
                go_simp
                refine (HTl.out W7 (some ⟨W2.heap.size, 0, none⟩) AP AQ AR (some ⟨W5.heap.size, 0, none⟩) cP cQ cR _ ((HH7.out.boxRd 0 rfl).m0) ((HH7.out.rdAt 3 rfl).m0) ((HH7.out.rowRd 5 rfl).m0) ((HH7.out.rowRd 4 rfl).m0) ((HH7.out.rowRd 2 rfl).m0) ((HH7.out.rowRd 1 rfl).m0)).mono ?_
                rintro e Wj ⟨v, rfl, hown, ee⟩
                obtain ⟨AJ, cJ, rfl, _, _, _⟩ := own_form hown
                have HHj := Lib.hid (HH7.out.addRow ee hown)
                clear HH7 hown ee
                go_wp2_with fail
                refine hK.out _ _ ((HHj).out.only 7 rfl) (fun hHeld => ?_); clear hK K; (try simp only [Act.put, lyA, lyB, lyC])
                refine tS 14 ?_; (try simp only [Act.put, lyA, lyB, lyC])
                refine wpAnyH_done (by kernel_rfl) ?_ _
                have HH := Lib.hid (HHj.out.only 0 rfl)
                clear HHj
                go_wp2_with fail
                go_meet
                exact ⟨_, _, rfl, HH⟩
              · go_simp
                generalize hwA : World.alloc _ _ = W5
                have HH5 := Lib.hid (HH4.out.allocRow hwA (n := 12) (size := 1) (by simp [bytes]) (by simp only [maxLen]; omega))
                clear hwA HH4
                refine hK.out _ _ (HH5.out.only 5 rfl) (fun hHeld => ?_)
                clear hK K
                (try simp only [Act.put, lyA, lyB, lyC])
                clear hHeld
                refine oS 1 (fun K hK => ?_)
                refine sh_mark Tryz.underlying33 Tryz.underlying5 HH5.out rfl rfl 2 rfl ?_
                intro W6 hm
                have HH6 := Lib.hid hm
                clear HH5 hm
                refine hK.out _ _ (HH6.out.only 5 rfl) (fun hHeld => ?_)
                clear hK K
                (try simp only [Act.put, lyA, lyB, lyC])
                clear hHeld
                refine oS 12 (fun K hK => ?_)
                go_simp; generalize hwA : World.alloc _ _ = W7; have HH7 := Lib.hid ((HH6).out.allocE hwA); clear hwA HH6
                refine hK.out _ _ ((HH7).out.only 6 rfl) (fun hHeld => ?_); clear hK K; (try simp only [Act.put, lyA, lyB, lyC]); clear hHeld
                refine oS 13 (fun K hK => ?_)
                go_simp
                refine (HTl.out W7 (some ⟨W2.heap.size, 0, none⟩) AP AQ AR (some ⟨W4.heap.size, 0, none⟩) cP cQ cR _ ((HH7.out.boxRd 0 rfl).m0) ((HH7.out.rdAt 3 rfl).m0) ((HH7.out.rowRd 5 rfl).m0) ((HH7.out.rowRd 4 rfl).m0) ((HH7.out.rowRd 2 rfl).m0) ((HH7.out.rowRd 1 rfl).m0)).mono ?_
                rintro e Wj ⟨v, rfl, hown, ee⟩
                obtain ⟨AJ, cJ, rfl, _, _, _⟩ := own_form hown
                have HHj := Lib.hid (HH7.out.addRow ee hown)
                clear HH7 hown ee
                go_wp2_with fail
                refine hK.out _ _ ((HHj).out.only 7 rfl) (fun hHeld => ?_); clear hK K; (try simp only [Act.put, lyA, lyB, lyC])
                refine tS 14 ?_; (try simp only [Act.put, lyA, lyB, lyC])
                refine wpAnyH_done (by kernel_rfl) ?_ _
                have HH := Lib.hid (HHj.out.only 0 rfl)
                clear HHj
                go_wp2_with fail
                go_meet
                exact ⟨_, _, rfl, HH⟩
            · go_simp
              generalize hwA : World.alloc _ _ = W4
              have HH4 := Lib.hid (HH3.out.allocRow hwA (n := 12) (size := 1) (by simp [bytes]) (by simp only [maxLen]; omega))
              clear hwA HH3
              refine hK.out _ _ (HH4.out.only 4 rfl) (fun hHeld => ?_)
              clear hK K
              (try simp only [Act.put, lyA, lyB, lyC])
              clear hHeld
              refine twoH 1 10 rfl rfl (by kernel_rfl) (by kernel_rfl) (by kernel_rfl) (fun K hK => ?_) (fun K hK => ?_)
              · refine sh_mark Tryz.underlying33 Tryz.underlying5 HH4.out rfl rfl 1 rfl ?_
                intro W5 hm
                have HH5 := Lib.hid hm
                clear HH4 hm
                refine hK.out _ _ (HH5.out.only 4 rfl) (fun hHeld => ?_)
                clear hK K
                (try simp only [Act.put, lyA, lyB, lyC])
                clear hHeld
                refine oS 10 (fun K hK => ?_)
                go_simp
                refine (put_any o _ 4 (by decide) rfl W5 HT.out.o0 HT.out.o1).mono ?_
                rintro e W6 ⟨v, rfl, hown, ee⟩
                obtain ⟨AR, cR, rfl, _, _, _⟩ := own_form hown
                have HH6 := Lib.hid (HH5.out.addRow ee hown)
                clear HH5 hown ee
                go_wp2_with fail
                refine hK.out _ _ (HH6.out.only 5 rfl) (fun hHeld => ?_)
                clear hK K
                (try simp only [Act.put, lyA, lyB, lyC])
                clear hHeld
                refine oS 12 (fun K hK => ?_)
                go_simp; generalize hwA : World.alloc _ _ = W7; have HH7 := Lib.hid ((HH6).out.allocE hwA); clear hwA HH6
                refine hK.out _ _ ((HH7).out.only 6 rfl) (fun hHeld => ?_); clear hK K; (try simp only [Act.put, lyA, lyB, lyC]); clear hHeld
                refine oS 13 (fun K hK => ?_)
                go_simp
                refine (HTl.out W7 (some ⟨W2.heap.size, 0, none⟩) AP AQ AR (some ⟨W3.heap.size, 0, none⟩) cP cQ cR _ ((HH7.out.boxRd 0 rfl).m0) ((HH7.out.rdAt 3 rfl).m0) ((HH7.out.rowRd 5 rfl).m0) ((HH7.out.rowRd 4 rfl).m0) ((HH7.out.rowRd 1 rfl).m0) ((HH7.out.rowRd 2 rfl).m0)).mono ?_
                rintro e Wj ⟨v, rfl, hown, ee⟩
                obtain ⟨AJ, cJ, rfl, _, _, _⟩ := own_form hown
                have HHj := Lib.hid (HH7.out.addRow ee hown)
                clear HH7 hown ee
                go_wp2_with fail
                refine hK.out _ _ ((HHj).out.only 7 rfl) (fun hHeld => ?_); clear hK K; (try simp only [Act.put, lyA, lyB, lyC])
                refine tS 14 ?_; (try simp only [Act.put, lyA, lyB, lyC])
                refine wpAnyH_done (by kernel_rfl) ?_ _
                have HH := Lib.hid (HHj.out.only 0 rfl)
                clear HHj
                go_wp2_with fail
                go_meet
                exact ⟨_, _, rfl, HH⟩
              · go_simp
                refine (put_any o _ 4 (by decide) rfl W4 HT.out.o0 HT.out.o1).mono ?_
                rintro e W5 ⟨v, rfl, hown, ee⟩
                obtain ⟨AR, cR, rfl, _, _, _⟩ := own_form hown
                have HH5 := Lib.hid (HH4.out.addRow ee hown)
                clear HH4 hown ee
                go_wp2_with fail
                refine hK.out _ _ (HH5.out.only 5 rfl) (fun hHeld => ?_)
                clear hK K
                (try simp only [Act.put, lyA, lyB, lyC])
                clear hHeld
                refine oS 1 (fun K hK => ?_)
                refine sh_mark Tryz.underlying33 Tryz.underlying5 HH5.out rfl rfl 2 rfl ?_
                intro W6 hm
                have HH6 := Lib.hid hm
                clear HH5 hm
                refine hK.out _ _ (HH6.out.only 5 rfl) (fun hHeld => ?_)
                clear hK K
                (try simp only [Act.put, lyA, lyB, lyC])
                clear hHeld
                refine oS 12 (fun K hK => ?_)
                go_simp; generalize hwA : World.alloc _ _ = W7; have HH7 := Lib.hid ((HH6).out.allocE hwA); clear hwA HH6
                refine hK.out _ _ ((HH7).out.only 6 rfl) (fun hHeld => ?_); clear hK K; (try simp only [Act.put, lyA, lyB, lyC]); clear hHeld
                refine oS 13 (fun K hK => ?_)
                go_simp
                refine (HTl.out W7 (some ⟨W2.heap.size, 0, none⟩) AP AQ AR (some ⟨W3.heap.size, 0, none⟩) cP cQ cR _ ((HH7.out.boxRd 0 rfl).m0) ((HH7.out.rdAt 3 rfl).m0) ((HH7.out.rowRd 5 rfl).m0) ((HH7.out.rowRd 4 rfl).m0) ((HH7.out.rowRd 1 rfl).m0) ((HH7.out.rowRd 2 rfl).m0)).mono ?_
                rintro e Wj ⟨v, rfl, hown, ee⟩
                obtain ⟨AJ, cJ, rfl, _, _, _⟩ := own_form hown
                have HHj := Lib.hid (HH7.out.addRow ee hown)
                clear HH7 hown ee
                go_wp2_with fail
                refine hK.out _ _ ((HHj).out.only 7 rfl) (fun hHeld => ?_); clear hK K; (try simp only [Act.put, lyA, lyB, lyC])
                refine tS 14 ?_; (try simp only [Act.put, lyA, lyB, lyC])
                refine wpAnyH_done (by kernel_rfl) ?_ _
                have HH := Lib.hid (HHj.out.only 0 rfl)
                clear HHj
                go_wp2_with fail
                go_meet
                exact ⟨_, _, rfl, HH⟩
          · go_simp
            refine (put_any o _ 4 (by decide) rfl W2 HT.out.o0 HT.out.o1).mono ?_
            rintro e W3 ⟨v, rfl, hown, ee⟩
            obtain ⟨AR, cR, rfl, _, _, _⟩ := own_form hown
            have HH3 := Lib.hid (HH2.out.addRow ee hown)
            clear HH2 hown ee
            go_wp2_with fail
            refine hK.out _ _ (HH3.out.only 3 rfl) (fun hHeld => ?_)
            clear hK K
            (try simp only [Act.put, lyA, lyB, lyC])
            clear hHeld
            refine twoH 0 11 rfl rfl (by kernel_rfl) (by kernel_rfl) (by kernel_rfl) (fun K hK => ?_) (fun K hK => ?_)
            · go_simp
              generalize hwA : World.alloc _ _ = W4
              have HH4 := Lib.hid (HH3.out.allocRow hwA (n := 4) (size := 1) rfl (by simp only [maxLen]; omega))
              clear hwA HH3
              refine hK.out _ _ (HH4.out.only 4 rfl) (fun hHeld => ?_)
              clear hK K
              (try simp only [Act.put, lyA, lyB, lyC])
              clear hHeld
              refine twoH 1 11 rfl rfl (by kernel_rfl) (by kernel_rfl) (by kernel_rfl) (fun K hK => ?_) (fun K hK => ?_)
              · refine sh_mark Tryz.underlying33 Tryz.underlying5 HH4.out rfl rfl 0 rfl ?_
                intro W5 hm
                have HH5 := Lib.hid hm
                clear HH4 hm
                refine hK.out _ _ (HH5.out.only 4 rfl) (fun hHeld => ?_)
                clear hK K
                (try simp only [Act.put, lyA, lyB, lyC])
                clear hHeld
                refine oS 11 (fun K hK => ?_)
                go_simp
                generalize hwA : World.alloc _ _ = W6
                have HH6 := Lib.hid (HH5.out.allocRow hwA (n := 12) (size := 1) (by simp [bytes]) (by simp only [maxLen]; omega))
                clear hwA HH5
                refine hK.out _ _ (HH6.out.only 5 rfl) (fun hHeld => ?_)
                clear hK K
                (try simp only [Act.put, lyA, lyB, lyC])
                clear hHeld
                refine oS 12 (fun K hK => ?_)
                go_simp; generalize hwA : World.alloc _ _ = W7; have HH7 := Lib.hid ((HH6).out.allocE hwA); clear hwA HH6
                refine hK.out _ _ ((HH7).out.only 6 rfl) (fun hHeld => ?_); clear hK K; (try simp only [Act.put, lyA, lyB, lyC]); clear hHeld
                refine oS 13 (fun K hK => ?_)
                go_simp
                refine (HTl.out W7 (some ⟨W3.heap.size, 0, none⟩) AP AQ AR (some ⟨W5.heap.size, 0, none⟩) cP cQ cR _ ((HH7.out.boxRd 0 rfl).m0) ((HH7.out.rdAt 2 rfl).m0) ((HH7.out.rowRd 5 rfl).m0) ((HH7.out.rowRd 4 rfl).m0) ((HH7.out.rowRd 3 rfl).m0) ((HH7.out.rowRd 1 rfl).m0)).mono ?_
                rintro e Wj ⟨v, rfl, hown, ee⟩
                obtain ⟨AJ, cJ, rfl, _, _, _⟩ := own_form hown
                have HHj := Lib.hid (HH7.out.addRow ee hown)
                clear HH7 hown ee
                go_wp2_with fail
                refine hK.out _ _ ((HHj).out.only 7 rfl) (fun hHeld => ?_); clear hK K; (try simp only [Act.put, lyA, lyB, lyC])
                refine tS 14 ?_; (try simp only [Act.put, lyA, lyB, lyC])
                refine wpAnyH_done (by kernel_rfl) ?_ _
                have HH := Lib.hid (HHj.out.only 0 rfl)
                clear HHj
                go_wp2_with fail
                go_meet
                exact ⟨_, _, rfl, HH⟩
              · go_simp
                generalize hwA : World.alloc _ _ = W5
                have HH5 := Lib.hid (HH4.out.allocRow hwA (n := 12) (size := 1) (by simp [bytes]) (by simp only [maxLen]; omega))
                clear hwA HH4
                refine hK.out _ _ (HH5.out.only 5 rfl) (fun hHeld => ?_)
                clear hK K
                (try simp only [Act.put, lyA, lyB, lyC])
                clear hHeld
                refine oS 1 (fun K hK => ?_)
                refine sh_mark Tryz.underlying33 Tryz.underlying5 HH5.out rfl rfl 1 rfl ?_
                intro W6 hm
                have HH6 := Lib.hid hm
                clear HH5 hm
                refine hK.out _ _ (HH6.out.only 5 rfl) (fun hHeld => ?_)
                clear hK K
                (try simp only [Act.put, lyA, lyB, lyC])
                clear hHeld
                refine oS 12 (fun K hK => ?_)
                go_simp; generalize hwA : World.alloc _ _ = W7; have HH7 := Lib.hid ((HH6).out.allocE hwA); clear hwA HH6
                refine hK.out _ _ ((HH7).out.only 6 rfl) (fun hHeld => ?_); clear hK K; (try simp only [Act.put, lyA, lyB, lyC]); clear hHeld
                refine oS 13 (fun K hK => ?_)
                go_simp
                refine (HTl.out W7 (some ⟨W3.heap.size, 0, none⟩) AP AQ AR (some ⟨W4.heap.size, 0, none⟩) cP cQ cR _ ((HH7.out.boxRd 0 rfl).m0) ((HH7.out.rdAt 2 rfl).m0) ((HH7.out.rowRd 5 rfl).m0) ((HH7.out.rowRd 4 rfl).m0) ((HH7.out.rowRd 3 rfl).m0) ((HH7.out.rowRd 1 rfl).m0)).mono ?_
                rintro e Wj ⟨v, rfl, hown, ee⟩
                obtain ⟨AJ, cJ, rfl, _, _, _⟩ := own_form hown
                have HHj := Lib.hid (HH7.out.addRow ee hown)
                clear HH7 hown ee
                go_wp2_with fail
                refine hK.out _ _ ((HHj).out.only 7 rfl) (fun hHeld => ?_); clear hK K; (try simp only [Act.put, lyA, lyB, lyC])
                refine tS 14 ?_; (try simp only [Act.put, lyA, lyB, lyC])
                refine wpAnyH_done (by kernel_rfl) ?_ _
                have HH := Lib.hid (HHj.out.only 0 rfl)
                clear HHj
                go_wp2_with fail
                go_meet
                exact ⟨_, _, rfl, HH⟩
            · go_simp
              generalize hwA : World.alloc _ _ = W4
              have HH4 := Lib.hid (HH3.out.allocRow hwA (n := 12) (size := 1) (by simp [bytes]) (by simp only [maxLen]; omega))
              clear hwA HH3
              refine hK.out _ _ (HH4.out.only 4 rfl) (fun hHeld => ?_)
              clear hK K
              (try simp only [Act.put, lyA, lyB, lyC])
              clear hHeld
              refine oS 0 (fun K hK => ?_)
              go_simp
              generalize hwA : World.alloc _ _ = W5
              have HH5 := Lib.hid (HH4.out.allocRow hwA (n := 4) (size := 1) rfl (by simp only [maxLen]; omega))
              clear hwA HH4
              refine hK.out _ _ (HH5.out.only 5 rfl) (fun hHeld => ?_)
              clear hK K
              (try simp only [Act.put, lyA, lyB, lyC])
              clear hHeld
              refine oS 1 (fun K hK => ?_)
              refine sh_mark Tryz.underlying33 Tryz.underlying5 HH5.out rfl rfl 0 rfl ?_
              intro W6 hm
              have HH6 := Lib.hid hm
              clear HH5 hm
              refine hK.out _ _ (HH6.out.only 5 rfl) (fun hHeld => ?_)
              clear hK K
              (try simp only [Act.put, lyA, lyB, lyC])
              clear hHeld
              refine oS 12 (fun K hK => ?_)
              go_simp; generalize hwA : World.alloc _ _ = W7; have HH7 := Lib.hid ((HH6).out.allocE hwA); clear hwA HH6
              refine hK.out _ _ ((HH7).out.only 6 rfl) (fun hHeld => ?_); clear hK K; (try simp only [Act.put, lyA, lyB, lyC]); clear hHeld
              refine oS 13 (fun K hK => ?_)
              go_simp
              refine (HTl.out W7 (some ⟨W4.heap.size, 0, none⟩) AP AQ AR (some ⟨W3.heap.size, 0, none⟩) cP cQ cR _ ((HH7.out.boxRd 0 rfl).m0) ((HH7.out.rdAt 1 rfl).m0) ((HH7.out.rowRd 5 rfl).m0) ((HH7.out.rowRd 4 rfl).m0) ((HH7.out.rowRd 3 rfl).m0) ((HH7.out.rowRd 2 rfl).m0)).mono ?_
              rintro e Wj ⟨v, rfl, hown, ee⟩
              obtain ⟨AJ, cJ, rfl, _, _, _⟩ := own_form hown
              have HHj := Lib.hid (HH7.out.addRow ee hown)
              clear HH7 hown ee
              go_wp2_with fail
              refine hK.out _ _ ((HHj).out.only 7 rfl) (fun hHeld => ?_); clear hK K; (try simp only [Act.put, lyA, lyB, lyC])
              refine tS 14 ?_; (try simp only [Act.put, lyA, lyB, lyC])
              refine wpAnyH_done (by kernel_rfl) ?_ _
              have HH := Lib.hid (HHj.out.only 0 rfl)
              clear HHj
              go_wp2_with fail
              go_meet
              exact ⟨_, _, rfl, HH⟩
          · go_simp
            generalize hwA : World.alloc _ _ = W3
            have HH3 := Lib.hid (HH2.out.allocRow hwA (n := 12) (size := 1) (by simp [bytes]) (by simp only [maxLen]; omega))
            clear hwA HH2
            refine hK.out _ _ (HH3.out.only 3 rfl) (fun hHeld => ?_)
            clear hK K
            (try simp only [Act.put, lyA, lyB, lyC])
            clear hHeld
            refine twoH 0 10 rfl rfl (by kernel_rfl) (by kernel_rfl) (by kernel_rfl) (fun K hK => ?_) (fun K hK => ?_)
            · go_simp
              generalize hwA : World.alloc _ _ = W4
              have HH4 := Lib.hid (HH3.out.allocRow hwA (n := 4) (size := 1) rfl (by simp only [maxLen]; omega))
              clear hwA HH3
              refine hK.out _ _ (HH4.out.only 4 rfl) (fun hHeld => ?_)
              clear hK K
              (try simp only [Act.put, lyA, lyB, lyC])
              clear hHeld
              refine twoH 1 10 rfl rfl (by kernel_rfl) (by kernel_rfl) (by kernel_rfl) (fun K hK => ?_) (fun K hK => ?_)
              · refine sh_mark Tryz.underlying33 Tryz.underlying5 HH4.out rfl rfl 0 rfl ?_
                intro W5 hm
                have HH5 := Lib.hid hm
                clear HH4 hm
                refine hK.out _ _ (HH5.out.only 4 rfl) (fun hHeld => ?_)
                clear hK K
                (try simp only [Act.put, lyA, lyB, lyC])
                clear hHeld
                refine oS 10 (fun K hK => ?_)
                go_simp
                refine (put_any o _ 4 (by decide) rfl W5 HT.out.o0 HT.out.o1).mono ?_
                rintro e W6 ⟨v, rfl, hown, ee⟩
                obtain ⟨AR, cR, rfl, _, _, _⟩ := own_form hown
                have HH6 := Lib.hid (HH5.out.addRow ee hown)
                clear HH5 hown ee
                go_wp2_with fail
                refine hK.out _ _ (HH6.out.only 5 rfl) (fun hHeld => ?_)
                clear hK K
                (try simp only [Act.put, lyA, lyB, lyC])
                clear hHeld
                refine oS 12 (fun K hK => ?_)
                go_simp; generalize hwA : World.alloc _ _ = W7; have HH7 := Lib.hid ((HH6).out.allocE hwA); clear hwA HH6
                refine hK.out _ _ ((HH7).out.only 6 rfl) (fun hHeld => ?_); clear hK K; (try simp only [Act.put, lyA, lyB, lyC]); clear hHeld
                refine oS 13 (fun K hK => ?_)
                go_simp
                refine (HTl.out W7 (some ⟨W3.heap.size, 0, none⟩) AP AQ AR (some ⟨W2.heap.size, 0, none⟩) cP cQ cR _ ((HH7.out.boxRd 0 rfl).m0) ((HH7.out.rdAt 2 rfl).m0) ((HH7.out.rowRd 5 rfl).m0) ((HH7.out.rowRd 4 rfl).m0) ((HH7.out.rowRd 1 rfl).m0) ((HH7.out.rowRd 3 rfl).m0)).mono ?_
                rintro e Wj ⟨v, rfl, hown, ee⟩
                obtain ⟨AJ, cJ, rfl, _, _, _⟩ := own_form hown
                have HHj := Lib.hid (HH7.out.addRow ee hown)
                clear HH7 hown ee
                go_wp2_with fail
                refine hK.out _ _ ((HHj).out.only 7 rfl) (fun hHeld => ?_); clear hK K; (try simp only [Act.put, lyA, lyB, lyC])
                refine tS 14 ?_; (try simp only [Act.put, lyA, lyB, lyC])
                refine wpAnyH_done (by kernel_rfl) ?_ _
                have HH := Lib.hid (HHj.out.only 0 rfl)
                clear HHj
                go_wp2_with fail
                go_meet
                exact ⟨_, _, rfl, HH⟩
              · go_simp
                refine (put_any o _ 4 (by decide) rfl W4 HT.out.o0 HT.out.o1).mono ?_
                rintro e W5 ⟨v, rfl, hown, ee⟩
                obtain ⟨AR, cR, rfl, _, _, _⟩ := own_form hown
                have HH5 := Lib.hid (HH4.out.addRow ee hown)
                clear HH4 hown ee
                go_wp2_with fail
                refine hK.out _ _ (HH5.out.only 5 rfl) (fun hHeld => ?_)
                clear hK K
                (try simp only [Act.put, lyA, lyB, lyC])
                clear hHeld
                refine oS 1 (fun K hK => ?_)
                refine sh_mark Tryz.underlying33 Tryz.underlying5 HH5.out rfl rfl 1 rfl ?_
                intro W6 hm
                have HH6 := Lib.hid hm
                clear HH5 hm
                refine hK.out _ _ (HH6.out.only 5 rfl) (fun hHeld => ?_)
                clear hK K
                (try simp only [Act.put, lyA, lyB, lyC])
                clear hHeld
                refine oS 12 (fun K hK => ?_)
                go_simp; generalize hwA : World.alloc _ _ = W7; have HH7 := Lib.hid ((HH6).out.allocE hwA); clear hwA HH6
                refine hK.out _ _ ((HH7).out.only 6 rfl) (fun hHeld => ?_); clear hK K; (try simp only [Act.put, lyA, lyB, lyC]); clear hHeld
                refine oS 13 (fun K hK => ?_)
                go_simp
                refine (HTl.out W7 (some ⟨W3.heap.size, 0, none⟩) AP AQ AR (some ⟨W2.heap.size, 0, none⟩) cP cQ cR _ ((HH7.out.boxRd 0 rfl).m0) ((HH7.out.rdAt 2 rfl).m0) ((HH7.out.rowRd 5 rfl).m0) ((HH7.out.rowRd 4 rfl).m0) ((HH7.out.rowRd 1 rfl).m0) ((HH7.out.rowRd 3 rfl).m0)).mono ?_
                rintro e Wj ⟨v, rfl, hown, ee⟩
                obtain ⟨AJ, cJ, rfl, _, _, _⟩ := own_form hown
                have HHj := Lib.hid (HH7.out.addRow ee hown)
                clear HH7 hown ee
                go_wp2_with fail
                refine hK.out _ _ ((HHj).out.only 7 rfl) (fun hHeld => ?_); clear hK K; (try simp only [Act.put, lyA, lyB, lyC])
                refine tS 14 ?_; (try simp only [Act.put, lyA, lyB, lyC])
                refine wpAnyH_done (by kernel_rfl) ?_ _
                have HH := Lib.hid (HHj.out.only 0 rfl)
                clear HHj
                go_wp2_with fail
                go_meet
                exact ⟨_, _, rfl, HH⟩
            · go_simp
              refine (put_any o _ 4 (by decide) rfl W3 HT.out.o0 HT.out.o1).mono ?_
              rintro e W4 ⟨v, rfl, hown, ee⟩
              obtain ⟨AR, cR, rfl, _, _, _⟩ := own_form hown
              have HH4 := Lib.hid (HH3.out.addRow ee hown)
              clear HH3 hown ee
              go_wp2_with fail
              refine hK.out _ _ (HH4.out.only 4 rfl) (fun hHeld => ?_)
              clear hK K
              (try simp only [Act.put, lyA, lyB, lyC])
              clear hHeld
              refine oS 0 (fun K hK => ?_)
              go_simp
              generalize hwA : World.alloc _ _ = W5
              have HH5 := Lib.hid (HH4.out.allocRow hwA (n := 4) (size := 1) rfl (by simp only [maxLen]; omega))
              clear hwA HH4
              refine hK.out _ _ (HH5.out.only 5 rfl) (fun hHeld => ?_)
              clear hK K
              (try simp only [Act.put, lyA, lyB, lyC])
              clear hHeld
              refine oS 1 (fun K hK => ?_)
              refine sh_mark Tryz.underlying33 Tryz.underlying5 HH5.out rfl rfl 0 rfl ?_
              intro W6 hm
              have HH6 := Lib.hid hm
              clear HH5 hm
              refine hK.out _ _ (HH6.out.only 5 rfl) (fun hHeld => ?_)
              clear hK K
              (try simp only [Act.put, lyA, lyB, lyC])
              clear hHeld
              refine oS 12 (fun K hK => ?_)
              go_simp; generalize hwA : World.alloc _ _ = W7; have HH7 := Lib.hid ((HH6).out.allocE hwA); clear hwA HH6
              refine hK.out _ _ ((HH7).out.only 6 rfl) (fun hHeld => ?_); clear hK K; (try simp only [Act.put, lyA, lyB, lyC]); clear hHeld
              refine oS 13 (fun K hK => ?_)
              go_simp
              refine (HTl.out W7 (some ⟨W4.heap.size, 0, none⟩) AP AQ AR (some ⟨W2.heap.size, 0, none⟩) cP cQ cR _ ((HH7.out.boxRd 0 rfl).m0) ((HH7.out.rdAt 1 rfl).m0) ((HH7.out.rowRd 5 rfl).m0) ((HH7.out.rowRd 4 rfl).m0) ((HH7.out.rowRd 2 rfl).m0) ((HH7.out.rowRd 3 rfl).m0)).mono ?_
              rintro e Wj ⟨v, rfl, hown, ee⟩
              obtain ⟨AJ, cJ, rfl, _, _, _⟩ := own_form hown
              have HHj := Lib.hid (HH7.out.addRow ee hown)
              clear HH7 hown ee
              go_wp2_with fail
              refine hK.out _ _ ((HHj).out.only 7 rfl) (fun hHeld => ?_); clear hK K; (try simp only [Act.put, lyA, lyB, lyC])
              refine tS 14 ?_; (try simp only [Act.put, lyA, lyB, lyC])
              refine wpAnyH_done (by kernel_rfl) ?_ _
              have HH := Lib.hid (HHj.out.only 0 rfl)
              clear HHj
              go_wp2_with fail
              go_meet
              exact ⟨_, _, rfl, HH⟩
        · go_simp
          generalize hwA : World.alloc _ _ = W2
          have HH2 := Lib.hid (HH1.out.allocRow hwA (n := 12) (size := 1) (by simp [bytes]) (by simp only [maxLen]; omega))
          clear hwA HH1
          refine hK.out _ _ (HH2.out.only 2 rfl) (fun hHeld => ?_)
          clear hK K
          (try simp only [Act.put, lyA, lyB, lyC])
          clear hHeld
          refine twoH 0 7 rfl rfl (by kernel_rfl) (by kernel_rfl) (by kernel_rfl) (fun K hK => ?_) (fun K hK => ?_)
          · go_simp
            generalize hwA : World.alloc _ _ = W3
            have HH3 := Lib.hid (HH2.out.allocRow hwA (n := 4) (size := 1) rfl (by simp only [maxLen]; omega))
            clear hwA HH2
            refine hK.out _ _ (HH3.out.only 3 rfl) (fun hHeld => ?_)
            clear hK K
            (try simp only [Act.put, lyA, lyB, lyC])
            clear hHeld
            refine twoH 1 7 rfl rfl (by kernel_rfl) (by kernel_rfl) (by kernel_rfl) (fun K hK => ?_) (fun K hK => ?_)
            · refine sh_mark Tryz.underlying33 Tryz.underlying5 HH3.out rfl rfl 0 rfl ?_
              intro W4 hm
              have HH4 := Lib.hid hm
              clear HH3 hm
              refine hK.out _ _ (HH4.out.only 3 rfl) (fun hHeld => ?_)
              clear hK K
              (try simp only [Act.put, lyA, lyB, lyC])
              clear hHeld
              refine oS 7 (fun K hK => ?_)
              go_simp
              refine (put_any f _ 4 (by decide) rfl W4 HT.out.f0 HT.out.f1).mono ?_
              rintro e W5 ⟨v, rfl, hown, ee⟩
              obtain ⟨AQ, cQ, rfl, _, _, _⟩ := own_form hown
              have HH5 := Lib.hid (HH4.out.addRow ee hown)
              clear HH4 hown ee
              go_wp2_with fail
              refine hK.out _ _ (HH5.out.only 4 rfl) (fun hHeld => ?_)
              clear hK K
              (try simp only [Act.put, lyA, lyB, lyC])
              clear hHeld
              refine oS 10 (fun K hK => ?_)
              go_simp
              refine (put_any o _ 4 (by decide) rfl W5 HT.out.o0 HT.out.o1).mono ?_
              rintro e W6 ⟨v, rfl, hown, ee⟩
              obtain ⟨AR, cR, rfl, _, _, _⟩ := own_form hown
              have HH6 := Lib.hid (HH5.out.addRow ee hown)
              clear HH5 hown ee
              go_wp2_with fail
              refine hK.out _ _ (HH6.out.only 5 rfl) (fun hHeld => ?_)
              clear hK K
              (try simp only [Act.put, lyA, lyB, lyC])
              clear hHeld
              refine oS 12 (fun K hK => ?_)
              go_simp; generalize hwA : World.alloc _ _ = W7; have HH7 := Lib.hid ((HH6).out.allocE hwA); clear hwA HH6
              refine hK.out _ _ ((HH7).out.only 6 rfl) (fun hHeld => ?_); clear hK K; (try simp only [Act.put, lyA, lyB, lyC]); clear hHeld
              refine oS 13 (fun K hK => ?_)
              go_simp
              refine (HTl.out W7 (some ⟨W2.heap.size, 0, none⟩) AP AQ AR (some ⟨W1.heap.size, 0, none⟩) cP cQ cR _ ((HH7.out.boxRd 0 rfl).m0) ((HH7.out.rdAt 3 rfl).m0) ((HH7.out.rowRd 5 rfl).m0) ((HH7.out.rowRd 2 rfl).m0) ((HH7.out.rowRd 1 rfl).m0) ((HH7.out.rowRd 4 rfl).m0)).mono ?_
              rintro e Wj ⟨v, rfl, hown, ee⟩
              obtain ⟨AJ, cJ, rfl, _, _, _⟩ := own_form hown
              have HHj := Lib.hid (HH7.out.addRow ee hown)
              clear HH7 hown ee
              go_wp2_with fail
              refine hK.out _ _ ((HHj).out.only 7 rfl) (fun hHeld => ?_); clear hK K; (try simp only [Act.put, lyA, lyB, lyC])
              refine tS 14 ?_; (try simp only [Act.put, lyA, lyB, lyC])
              refine wpAnyH_done (by kernel_rfl) ?_ _
              have HH := Lib.hid (HHj.out.only 0 rfl)
              clear HHj
              go_wp2_with fail
              go_meet
              exact ⟨_, _, rfl, HH⟩
            · go_simp
              refine (put_any f _ 4 (by decide) rfl W3 HT.out.f0 HT.out.f1).mono ?_
              rintro e W4 ⟨v, rfl, hown, ee⟩
              obtain ⟨AQ, cQ, rfl, _, _, _⟩ := own_form hown
              have HH4 := Lib.hid (HH3.out.addRow ee hown)
              clear HH3 hown ee
              go_wp2_with fail
              refine hK.out _ _ (HH4.out.only 4 rfl) (fun hHeld => ?_)
              clear hK K
              (try simp only [Act.put, lyA, lyB, lyC])
              clear hHeld
              refine twoH 1 10 rfl rfl (by kernel_rfl) (by kernel_rfl) (by kernel_rfl) (fun K hK => ?_) (fun K hK => ?_)
              · refine sh_mark Tryz.underlying33 Tryz.underlying5 HH4.out rfl rfl 1 rfl ?_
                intro W5 hm
                have HH5 := Lib.hid hm
                clear HH4 hm
                refine hK.out _ _ (HH5.out.only 4 rfl) (fun hHeld => ?_)
                clear hK K
                (try simp only [Act.put, lyA, lyB, lyC])
                clear hHeld
                refine oS 10 (fun K hK => ?_)
                go_simp
                refine (put_any o _ 4 (by decide) rfl W5 HT.out.o0 HT.out.o1).mono ?_
                rintro e W6 ⟨v, rfl, hown, ee⟩
                obtain ⟨AR, cR, rfl, _, _, _⟩ := own_form hown
                have HH6 := Lib.hid (HH5.out.addRow ee hown)
                clear HH5 hown ee
                go_wp2_with fail
                refine hK.out _ _ (HH6.out.only 5 rfl) (fun hHeld => ?_)
                clear hK K
                (try simp only [Act.put, lyA, lyB, lyC])
                clear hHeld
                refine oS 12 (fun K hK => ?_)
                go_simp; generalize hwA : World.alloc _ _ = W7; have HH7 := Lib.hid ((HH6).out.allocE hwA); clear hwA HH6
                refine hK.out _ _ ((HH7).out.only 6 rfl) (fun hHeld => ?_); clear hK K; (try simp only [Act.put, lyA, lyB, lyC]); clear hHeld
                refine oS 13 (fun K hK => ?_)
                go_simp
                refine (HTl.out W7 (some ⟨W2.heap.size, 0, none⟩) AP AQ AR (some ⟨W1.heap.size, 0, none⟩) cP cQ cR _ ((HH7.out.boxRd 0 rfl).m0) ((HH7.out.rdAt 3 rfl).m0) ((HH7.out.rowRd 5 rfl).m0) ((HH7.out.rowRd 2 rfl).m0) ((HH7.out.rowRd 1 rfl).m0) ((HH7.out.rowRd 4 rfl).m0)).mono ?_
                rintro e Wj ⟨v, rfl, hown, ee⟩
                obtain ⟨AJ, cJ, rfl, _, _, _⟩ := own_form hown
                have HHj := Lib.hid (HH7.out.addRow ee hown)
                clear HH7 hown ee
                go_wp2_with fail
                refine hK.out _ _ ((HHj).out.only 7 rfl) (fun hHeld => ?_); clear hK K; (try simp only [Act.put, lyA, lyB, lyC])
                refine tS 14 ?_; (try simp only [Act.put, lyA, lyB, lyC])
                refine wpAnyH_done (by kernel_rfl) ?_ _
                have HH := Lib.hid (HHj.out.only 0 rfl)
                clear HHj
                go_wp2_with fail
                go_meet
                exact ⟨_, _, rfl, HH⟩
              · go_simp
                refine (put_any o _ 4 (by decide) rfl W4 HT.out.o0 HT.out.o1).mono ?_
                rintro e W5 ⟨v, rfl, hown, ee⟩
                obtain ⟨AR, cR, rfl, _, _, _⟩ := own_form hown
                have HH5 := Lib.hid (HH4.out.addRow ee hown)
                clear HH4 hown ee
                go_wp2_with fail
                refine hK.out _ _ (HH5.out.only 5 rfl) (fun hHeld => ?_)
                clear hK K
                (try simp only [Act.put, lyA, lyB, lyC])
                clear hHeld
                refine oS 1 (fun K hK => ?_)
                refine sh_mark Tryz.underlying33 Tryz.underlying5 HH5.out rfl rfl 2 rfl ?_
                intro W6 hm
                have HH6 := Lib.hid hm
                clear HH5 hm
                refine hK.out _ _ (HH6.out.only 5 rfl) (fun hHeld => ?_)
                clear hK K
                (try simp only [Act.put, lyA, lyB, lyC])
                clear hHeld
                refine oS 12 (fun K hK => ?_)
                go_simp; generalize hwA : World.alloc _ _ = W7; have HH7 := Lib.hid ((HH6).out.allocE hwA); clear hwA HH6
                refine hK.out _ _ ((HH7).out.only 6 rfl) (fun hHeld => ?_); clear hK K; (try simp only [Act.put, lyA, lyB, lyC]); clear hHeld
                refine oS 13 (fun K hK => ?_)
                go_simp
                refine (HTl.out W7 (some ⟨W2.heap.size, 0, none⟩) AP AQ AR (some ⟨W1.heap.size, 0, none⟩) cP cQ cR _ ((HH7.out.boxRd 0 rfl).m0) ((HH7.out.rdAt 3 rfl).m0) ((HH7.out.rowRd 5 rfl).m0) ((HH7.out.rowRd 2 rfl).m0) ((HH7.out.rowRd 1 rfl).m0) ((HH7.out.rowRd 4 rfl).m0)).mono ?_
                rintro e Wj ⟨v, rfl, hown, ee⟩
                obtain ⟨AJ, cJ, rfl, _, _, _⟩ := own_form hown
                have HHj := Lib.hid (HH7.out.addRow ee hown)
                clear HH7 hown ee
                go_wp2_with fail
                refine hK.out _ _ ((HHj).out.only 7 rfl) (fun hHeld => ?_); clear hK K; (try simp only [Act.put, lyA, lyB, lyC])
                refine tS 14 ?_; (try simp only [Act.put, lyA, lyB, lyC])
                refine wpAnyH_done (by kernel_rfl) ?_ _
                have HH := Lib.hid (HHj.out.only 0 rfl)
                clear HHj
                go_wp2_with fail
                go_meet
                exact ⟨_, _, rfl, HH⟩
          · go_simp
            refine (put_any f _ 4 (by decide) rfl W2 HT.out.f0 HT.out.f1).mono ?_
            rintro e W3 ⟨v, rfl, hown, ee⟩
            obtain ⟨AQ, cQ, rfl, _, _, _⟩ := own_form hown
            have HH3 := Lib.hid (HH2.out.addRow ee hown)
            clear HH2 hown ee
            go_wp2_with fail
            refine hK.out _ _ (HH3.out.only 3 rfl) (fun hHeld => ?_)
            clear hK K
            (try simp only [Act.put, lyA, lyB, lyC])
            clear hHeld
            refine twoH 0 10 rfl rfl (by kernel_rfl) (by kernel_rfl) (by kernel_rfl) (fun K hK => ?_) (fun K hK => ?_)
            · go_simp
              generalize hwA : World.alloc _ _ = W4
              have HH4 := Lib.hid (HH3.out.allocRow hwA (n := 4) (size := 1) rfl (by simp only [maxLen]; omega))
              clear hwA HH3
              refine hK.out _ _ (HH4.out.only 4 rfl) (fun hHeld => ?_)
              clear hK K
              (try simp only [Act.put, lyA, lyB, lyC])
              clear hHeld
              refine twoH 1 10 rfl rfl (by kernel_rfl) (by kernel_rfl) (by kernel_rfl) (fun K hK => ?_) (fun K hK => ?_)
              · refine sh_mark Tryz.underlying33 Tryz.underlying5 HH4.out rfl rfl 0 rfl ?_
                intro W5 hm
                have HH5 := Lib.hid hm
                clear HH4 hm
                refine hK.out _ _ (HH5.out.only 4 rfl) (fun hHeld => ?_)
                clear hK K
                (try simp only [Act.put, lyA, lyB, lyC])
                clear hHeld
                refine oS 10 (fun K hK => ?_)
                go_simp
                refine (put_any o _ 4 (by decide) rfl W5 HT.out.o0 HT.out.o1).mono ?_
                rintro e W6 ⟨v, rfl, hown, ee⟩
                obtain ⟨AR, cR, rfl, _, _, _⟩ := own_form hown
                have HH6 := Lib.hid (HH5.out.addRow ee hown)
                clear HH5 hown ee
                go_wp2_with fail
                refine hK.out _ _ (HH6.out.only 5 rfl) (fun hHeld => ?_)
                clear hK K
                (try simp only [Act.put, lyA, lyB, lyC])
                clear hHeld
                refine oS 12 (fun K hK => ?_)
                go_simp; generalize hwA : World.alloc _ _ = W7; have HH7 := Lib.hid ((HH6).out.allocE hwA); clear hwA HH6
                refine hK.out _ _ ((HH7).out.only 6 rfl) (fun hHeld => ?_); clear hK K; (try simp only [Act.put, lyA, lyB, lyC]); clear hHeld
                refine oS 13 (fun K hK => ?_)
                go_simp
                refine (HTl.out W7 (some ⟨W3.heap.size, 0, none⟩) AP AQ AR (some ⟨W1.heap.size, 0, none⟩) cP cQ cR _ ((HH7.out.boxRd 0 rfl).m0) ((HH7.out.rdAt 2 rfl).m0) ((HH7.out.rowRd 5 rfl).m0) ((HH7.out.rowRd 3 rfl).m0) ((HH7.out.rowRd 1 rfl).m0) ((HH7.out.rowRd 4 rfl).m0)).mono ?_
                rintro e Wj ⟨v, rfl, hown, ee⟩
                obtain ⟨AJ, cJ, rfl, _, _, _⟩ := own_form hown
                have HHj := Lib.hid (HH7.out.addRow ee hown)
                clear HH7 hown ee
                go_wp2_with fail
                refine hK.out _ _ ((HHj).out.only 7 rfl) (fun hHeld => ?_); clear hK K; (try simp only [Act.put, lyA, lyB, lyC])
                refine tS 14 ?_; (try simp only [Act.put, lyA, lyB, lyC])
                refine wpAnyH_done (by kernel_rfl) ?_ _
                have HH := Lib.hid (HHj.out.only 0 rfl)
                clear HHj
                go_wp2_with fail
                go_meet
                exact ⟨_, _, rfl, HH⟩
              · go_simp
                refine (put_any o _ 4 (by decide) rfl W4 HT.out.o0 HT.out.o1).mono ?_
                rintro e W5 ⟨v, rfl, hown, ee⟩
                obtain ⟨AR, cR, rfl, _, _, _⟩ := own_form hown
                have HH5 := Lib.hid (HH4.out.addRow ee hown)
                clear HH4 hown ee
                go_wp2_with fail
                refine hK.out _ _ (HH5.out.only 5 rfl) (fun hHeld => ?_)
                clear hK K
                (try simp only [Act.put, lyA, lyB, lyC])
                clear hHeld
                refine oS 1 (fun K hK => ?_)
                refine sh_mark Tryz.underlying33 Tryz.underlying5 HH5.out rfl rfl 1 rfl ?_
                intro W6 hm
                have HH6 := Lib.hid hm
                clear HH5 hm
                refine hK.out _ _ (HH6.out.only 5 rfl) (fun hHeld => ?_)
                clear hK K
                (try simp only [Act.put, lyA, lyB, lyC])
                clear hHeld
                refine oS 12 (fun K hK => ?_)
                go_simp; generalize hwA : World.alloc _ _ = W7; have HH7 := Lib.hid ((HH6).out.allocE hwA); clear hwA HH6
                refine hK.out _ _ ((HH7).out.only 6 rfl) (fun hHeld => ?_); clear hK K; (try simp only [Act.put, lyA, lyB, lyC]); clear hHeld
                refine oS 13 (fun K hK => ?_)
                go_simp
                refine (HTl.out W7 (some ⟨W3.heap.size, 0, none⟩) AP AQ AR (some ⟨W1.heap.size, 0, none⟩) cP cQ cR _ ((HH7.out.boxRd 0 rfl).m0) ((HH7.out.rdAt 2 rfl).m0) ((HH7.out.rowRd 5 rfl).m0) ((HH7.out.rowRd 3 rfl).m0) ((HH7.out.rowRd 1 rfl).m0) ((HH7.out.rowRd 4 rfl).m0)).mono ?_
                rintro e Wj ⟨v, rfl, hown, ee⟩
                obtain ⟨AJ, cJ, rfl, _, _, _⟩ := own_form hown
                have HHj := Lib.hid (HH7.out.addRow ee hown)
                clear HH7 hown ee
                go_wp2_with fail
                refine hK.out _ _ ((HHj).out.only 7 rfl) (fun hHeld => ?_); clear hK K; (try simp only [Act.put, lyA, lyB, lyC])
                refine tS 14 ?_; (try simp only [Act.put, lyA, lyB, lyC])
                refine wpAnyH_done (by kernel_rfl) ?_ _
                have HH := Lib.hid (HHj.out.only 0 rfl)
                clear HHj
                go_wp2_with fail
                go_meet
                exact ⟨_, _, rfl, HH⟩
            · go_simp
              refine (put_any o _ 4 (by decide) rfl W3 HT.out.o0 HT.out.o1).mono ?_
              rintro e W4 ⟨v, rfl, hown, ee⟩
              obtain ⟨AR, cR, rfl, _, _, _⟩ := own_form hown
              have HH4 := Lib.hid (HH3.out.addRow ee hown)
              clear HH3 hown ee
              go_wp2_with fail
              refine hK.out _ _ (HH4.out.only 4 rfl) (fun hHeld => ?_)
              clear hK K
              (try simp only [Act.put, lyA, lyB, lyC])
              clear hHeld
              refine oS 0 (fun K hK => ?_)
              go_simp
              generalize hwA : World.alloc _ _ = W5
              have HH5 := Lib.hid (HH4.out.allocRow hwA (n := 4) (size := 1) rfl (by simp only [maxLen]; omega))
              clear hwA HH4
              refine hK.out _ _ (HH5.out.only 5 rfl) (fun hHeld => ?_)
              clear hK K
              (try simp only [Act.put, lyA, lyB, lyC])
              clear hHeld
              refine oS 1 (fun K hK => ?_)
              refine sh_mark Tryz.underlying33 Tryz.underlying5 HH5.out rfl rfl 0 rfl ?_
              intro W6 hm
              have HH6 := Lib.hid hm
              clear HH5 hm
              refine hK.out _ _ (HH6.out.only 5 rfl) (fun hHeld => ?_)
              clear hK K
              (try simp only [Act.put, lyA, lyB, lyC])
              clear hHeld
              refine oS 12 (fun K hK => ?_)
              go_simp; generalize hwA : World.alloc _ _ = W7; have HH7 := Lib.hid ((HH6).out.allocE hwA); clear hwA HH6
              refine hK.out _ _ ((HH7).out.only 6 rfl) (fun hHeld => ?_); clear hK K; (try simp only [Act.put, lyA, lyB, lyC]); clear hHeld
              refine oS 13 (fun K hK => ?_)
              go_simp
              refine (HTl.out W7 (some ⟨W4.heap.size, 0, none⟩) AP AQ AR (some ⟨W1.heap.size, 0, none⟩) cP cQ cR _ ((HH7.out.boxRd 0 rfl).m0) ((HH7.out.rdAt 1 rfl).m0) ((HH7.out.rowRd 5 rfl).m0) ((HH7.out.rowRd 3 rfl).m0) ((HH7.out.rowRd 2 rfl).m0) ((HH7.out.rowRd 4 rfl).m0)).mono ?_
              rintro e Wj ⟨v, rfl, hown, ee⟩
              obtain ⟨AJ, cJ, rfl, _, _, _⟩ := own_form hown
              have HHj := Lib.hid (HH7.out.addRow ee hown)
              clear HH7 hown ee
              go_wp2_with fail
              refine hK.out _ _ ((HHj).out.only 7 rfl) (fun hHeld => ?_); clear hK K; (try simp only [Act.put, lyA, lyB, lyC])
              refine tS 14 ?_; (try simp only [Act.put, lyA, lyB, lyC])
              refine wpAnyH_done (by kernel_rfl) ?_ _
              have HH := Lib.hid (HHj.out.only 0 rfl)
              clear HHj
              go_wp2_with fail
              go_meet
              exact ⟨_, _, rfl, HH⟩
      · go_simp
        generalize hwA : World.alloc _ _ = W1
        have HH1 := Lib.hid (HH0.out.allocRow hwA (n := 12) (size := 1) (by simp [bytes]) (by simp only [maxLen]; omega))
        clear hwA HH0
        refine hK.out _ _ (HH1.out.only 1 rfl) (fun hHeld => ?_)
        clear hK K
        (try simp only [Act.put, lyA, lyB, lyC])
        clear hHeld
        refine twoH 0 4 rfl rfl (by kernel_rfl) (by kernel_rfl) (by kernel_rfl) (fun K hK => ?_) (fun K hK => ?_)
        · go_simp
          generalize hwA : World.alloc _ _ = W2
          have HH2 := Lib.hid (HH1.out.allocRow hwA (n := 4) (size := 1) rfl (by simp only [maxLen]; omega))
          clear hwA HH1
          refine hK.out _ _ (HH2.out.only 2 rfl) (fun hHeld => ?_)
          clear hK K
          (try simp only [Act.put, lyA, lyB, lyC])
          clear hHeld
          refine twoH 1 4 rfl rfl (by kernel_rfl) (by kernel_rfl) (by kernel_rfl) (fun K hK => ?_) (fun K hK => ?_)
          · refine sh_mark Tryz.underlying33 Tryz.underlying5 HH2.out rfl rfl 0 rfl ?_
            intro W3 hm
            have HH3 := Lib.hid hm
            clear HH2 hm
            refine hK.out _ _ (HH3.out.only 2 rfl) (fun hHeld => ?_)
            clear hK K
            (try simp only [Act.put, lyA, lyB, lyC])
            clear hHeld
            refine oS 4 (fun K hK => ?_)
            go_simp
            refine (put_any t _ 8 (by decide) rfl W3 HT.out.t0 HT.out.t1).mono ?_
            rintro e W4 ⟨v, rfl, hown, ee⟩
            obtain ⟨AP, cP, rfl, _, _, _⟩ := own_form hown
            have HH4 := Lib.hid (HH3.out.addRow ee hown)
            clear HH3 hown ee
            go_wp2_with fail
            refine hK.out _ _ (HH4.out.only 3 rfl) (fun hHeld => ?_)
            clear hK K
            (try simp only [Act.put, lyA, lyB, lyC])
            clear hHeld
            refine oS 7 (fun K hK => ?_)
            go_simp
            refine (put_any f _ 4 (by decide) rfl W4 HT.out.f0 HT.out.f1).mono ?_
            rintro e W5 ⟨v, rfl, hown, ee⟩
            obtain ⟨AQ, cQ, rfl, _, _, _⟩ := own_form hown
            have HH5 := Lib.hid (HH4.out.addRow ee hown)
            clear HH4 hown ee
            go_wp2_with fail
            refine hK.out _ _ (HH5.out.only 4 rfl) (fun hHeld => ?_)
            clear hK K
            (try simp only [Act.put, lyA, lyB, lyC])
            clear hHeld
            refine oS 10 (fun K hK => ?_)
            go_simp
            refine (put_any o _ 4 (by decide) rfl W5 HT.out.o0 HT.out.o1).mono ?_
            rintro e W6 ⟨v, rfl, hown, ee⟩
            obtain ⟨AR, cR, rfl, _, _, _⟩ := own_form hown
            have HH6 := Lib.hid (HH5.out.addRow ee hown)
            clear HH5 hown ee
            go_wp2_with fail
            refine hK.out _ _ (HH6.out.only 5 rfl) (fun hHeld => ?_)
            clear hK K
            (try simp only [Act.put, lyA, lyB, lyC])
            clear hHeld
            refine oS 12 (fun K hK => ?_)
            go_simp; generalize hwA : World.alloc _ _ = W7; have HH7 := Lib.hid ((HH6).out.allocE hwA); clear hwA HH6
            refine hK.out _ _ ((HH7).out.only 6 rfl) (fun hHeld => ?_); clear hK K; (try simp only [Act.put, lyA, lyB, lyC]); clear hHeld
            refine oS 13 (fun K hK => ?_)
            go_simp
            refine (HTl.out W7 (some ⟨W1.heap.size, 0, none⟩) AP AQ AR (some ⟨W0.heap.size, 0, none⟩) cP cQ cR _ ((HH7.out.boxRd 0 rfl).m0) ((HH7.out.rdAt 4 rfl).m0) ((HH7.out.rowRd 3 rfl).m0) ((HH7.out.rowRd 2 rfl).m0) ((HH7.out.rowRd 1 rfl).m0) ((HH7.out.rowRd 5 rfl).m0)).mono ?_
            rintro e Wj ⟨v, rfl, hown, ee⟩
            obtain ⟨AJ, cJ, rfl, _, _, _⟩ := own_form hown
            have HHj := Lib.hid (HH7.out.addRow ee hown)
            clear HH7 hown ee
            go_wp2_with fail
            refine hK.out _ _ ((HHj).out.only 7 rfl) (fun hHeld => ?_); clear hK K; (try simp only [Act.put, lyA, lyB, lyC])
            refine tS 14 ?_; (try simp only [Act.put, lyA, lyB, lyC])
            refine wpAnyH_done (by kernel_rfl) ?_ _
            have HH := Lib.hid (HHj.out.only 0 rfl)
            clear HHj
            go_wp2_with fail
            go_meet
            exact ⟨_, _, rfl, HH⟩
          · go_simp
            refine (put_any t _ 8 (by decide) rfl W2 HT.out.t0 HT.out.t1).mono ?_
            rintro e W3 ⟨v, rfl, hown, ee⟩
            obtain ⟨AP, cP, rfl, _, _, _⟩ := own_form hown
            have HH3 := Lib.hid (HH2.out.addRow ee hown)
            clear HH2 hown ee
            go_wp2_with fail
            refine hK.out _ _ (HH3.out.only 3 rfl) (fun hHeld => ?_)
            clear hK K
            (try simp only [Act.put, lyA, lyB, lyC])
            clear hHeld
            refine twoH 1 7 rfl rfl (by kernel_rfl) (by kernel_rfl) (by kernel_rfl) (fun K hK => ?_) (fun K hK => ?_)
            · refine sh_mark Tryz.underlying33 Tryz.underlying5 HH3.out rfl rfl 1 rfl ?_
              intro W4 hm
              have HH4 := Lib.hid hm
              clear HH3 hm
              refine hK.out _ _ (HH4.out.only 3 rfl) (fun hHeld => ?_)
              clear hK K
              (try simp only [Act.put, lyA, lyB, lyC])
              clear hHeld
              refine oS 7 (fun K hK => ?_)
              go_simp
              refine (put_any f _ 4 (by decide) rfl W4 HT.out.f0 HT.out.f1).mono ?_
              rintro e W5 ⟨v, rfl, hown, ee⟩
              obtain ⟨AQ, cQ, rfl, _, _, _⟩ := own_form hown
              have HH5 := Lib.hid (HH4.out.addRow ee hown)
              clear HH4 hown ee
              go_wp2_with fail
              refine hK.out _ _ (HH5.out.only 4 rfl) (fun hHeld => ?_)
              clear hK K
              (try simp only [Act.put, lyA, lyB, lyC])
              clear hHeld
              refine oS 10 (fun K hK => ?_)
              go_simp
              refine (put_any o _ 4 (by decide) rfl W5 HT.out.o0 HT.out.o1).mono ?_
              rintro e W6 ⟨v, rfl, hown, ee⟩
              obtain ⟨AR, cR, rfl, _, _, _⟩ := own_form hown
              have HH6 := Lib.hid (HH5.out.addRow ee hown)
              clear HH5 hown ee
              go_wp2_with fail
              refine hK.out _ _ (HH6.out.only 5 rfl) (fun hHeld => ?_)
              clear hK K
              (try simp only [Act.put, lyA, lyB, lyC])
              clear hHeld
              refine oS 12 (fun K hK => ?_)
              go_simp; generalize hwA : World.alloc _ _ = W7; have HH7 := Lib.hid ((HH6).out.allocE hwA); clear hwA HH6
              refine hK.out _ _ ((HH7).out.only 6 rfl) (fun hHeld => ?_); clear hK K; (try simp only [Act.put, lyA, lyB, lyC]); clear hHeld
              refine oS 13 (fun K hK => ?_)
              go_simp
              refine (HTl.out W7 (some ⟨W1.heap.size, 0, none⟩) AP AQ AR (some ⟨W0.heap.size, 0, none⟩) cP cQ cR _ ((HH7.out.boxRd 0 rfl).m0) ((HH7.out.rdAt 4 rfl).m0) ((HH7.out.rowRd 3 rfl).m0) ((HH7.out.rowRd 2 rfl).m0) ((HH7.out.rowRd 1 rfl).m0) ((HH7.out.rowRd 5 rfl).m0)).mono ?_
              rintro e Wj ⟨v, rfl, hown, ee⟩
              obtain ⟨AJ, cJ, rfl, _, _, _⟩ := own_form hown
              have HHj := Lib.hid (HH7.out.addRow ee hown)
              clear HH7 hown ee
              go_wp2_with fail
              refine hK.out _ _ ((HHj).out.only 7 rfl) (fun hHeld => ?_); clear hK K; (try simp only [Act.put, lyA, lyB, lyC])
              refine tS 14 ?_; (try simp only [Act.put, lyA, lyB, lyC])
              refine wpAnyH_done (by kernel_rfl) ?_ _
              have HH := Lib.hid (HHj.out.only 0 rfl)
              clear HHj
              go_wp2_with fail
              go_meet
              exact ⟨_, _, rfl, HH⟩
            · go_simp
              refine (put_any f _ 4 (by decide) rfl W3 HT.out.f0 HT.out.f1).mono ?_
              rintro e W4 ⟨v, rfl, hown, ee⟩
              obtain ⟨AQ, cQ, rfl, _, _, _⟩ := own_form hown
              have HH4 := Lib.hid (HH3.out.addRow ee hown)
              clear HH3 hown ee
              go_wp2_with fail
              refine hK.out _ _ (HH4.out.only 4 rfl) (fun hHeld => ?_)
              clear hK K
              (try simp only [Act.put, lyA, lyB, lyC])
              clear hHeld
              refine twoH 1 10 rfl rfl (by kernel_rfl) (by kernel_rfl) (by kernel_rfl) (fun K hK => ?_) (fun K hK => ?_)
              · refine sh_mark Tryz.underlying33 Tryz.underlying5 HH4.out rfl rfl 2 rfl ?_
                intro W5 hm
                have HH5 := Lib.hid hm
                clear HH4 hm
                refine hK.out _ _ (HH5.out.only 4 rfl) (fun hHeld => ?_)
                clear hK K
                (try simp only [Act.put, lyA, lyB, lyC])
                clear hHeld
                refine oS 10 (fun K hK => ?_)
                go_simp
                refine (put_any o _ 4 (by decide) rfl W5 HT.out.o0 HT.out.o1).mono ?_
                rintro e W6 ⟨v, rfl, hown, ee⟩
                obtain ⟨AR, cR, rfl, _, _, _⟩ := own_form hown
                have HH6 := Lib.hid (HH5.out.addRow ee hown)
                clear HH5 hown ee
                go_wp2_with fail
                refine hK.out _ _ (HH6.out.only 5 rfl) (fun hHeld => ?_)
                clear hK K
                (try simp only [Act.put, lyA, lyB, lyC])
                clear hHeld
                refine oS 12 (fun K hK => ?_)
                go_simp; generalize hwA : World.alloc _ _ = W7; have HH7 := Lib.hid ((HH6).out.allocE hwA); clear hwA HH6
                refine hK.out _ _ ((HH7).out.only 6 rfl) (fun hHeld => ?_); clear hK K; (try simp only [Act.put, lyA, lyB, lyC]); clear hHeld
                refine oS 13 (fun K hK => ?_)
                go_simp
                refine (HTl.out W7 (some ⟨W1.heap.size, 0, none⟩) AP AQ AR (some ⟨W0.heap.size, 0, none⟩) cP cQ cR _ ((HH7.out.boxRd 0 rfl).m0) ((HH7.out.rdAt 4 rfl).m0) ((HH7.out.rowRd 3 rfl).m0) ((HH7.out.rowRd 2 rfl).m0) ((HH7.out.rowRd 1 rfl).m0) ((HH7.out.rowRd 5 rfl).m0)).mono ?_
                rintro e Wj ⟨v, rfl, hown, ee⟩
                obtain ⟨AJ, cJ, rfl, _, _, _⟩ := own_form hown
                have HHj := Lib.hid (HH7.out.addRow ee hown)
                clear HH7 hown ee
                go_wp2_with fail
                refine hK.out _ _ ((HHj).out.only 7 rfl) (fun hHeld => ?_); clear hK K; (try simp only [Act.put, lyA, lyB, lyC])
                refine tS 14 ?_; (try simp only [Act.put, lyA, lyB, lyC])
                refine wpAnyH_done (by kernel_rfl) ?_ _
                have HH := Lib.hid (HHj.out.only 0 rfl)
                clear HHj
                go_wp2_with fail
                go_meet
                exact ⟨_, _, rfl, HH⟩
              · go_simp
                refine (put_any o _ 4 (by decide) rfl W4 HT.out.o0 HT.out.o1).mono ?_
                rintro e W5 ⟨v, rfl, hown, ee⟩
                obtain ⟨AR, cR, rfl, _, _, _⟩ := own_form hown
                have HH5 := Lib.hid (HH4.out.addRow ee hown)
                clear HH4 hown ee
                go_wp2_with fail
                refine hK.out _ _ (HH5.out.only 5 rfl) (fun hHeld => ?_)
                clear hK K
                (try simp only [Act.put, lyA, lyB, lyC])
                clear hHeld
                refine oS 1 (fun K hK => ?_)
                refine sh_mark Tryz.underlying33 Tryz.underlying5 HH5.out rfl rfl 3 rfl ?_
                intro W6 hm
                have HH6 := Lib.hid hm
                clear HH5 hm
                refine hK.out _ _ (HH6.out.only 5 rfl) (fun hHeld => ?_)
                clear hK K
                (try simp only [Act.put, lyA, lyB, lyC])
                clear hHeld
                refine oS 12 (fun K hK => ?_)
                go_simp; generalize hwA : World.alloc _ _ = W7; have HH7 := Lib.hid ((HH6).out.allocE hwA); clear hwA HH6
                refine hK.out _ _ ((HH7).out.only 6 rfl) (fun hHeld => ?_); clear hK K; (try simp only [Act.put, lyA, lyB, lyC]); clear hHeld
                refine oS 13 (fun K hK => ?_)
                go_simp
                refine (HTl.out W7 (some ⟨W1.heap.size, 0, none⟩) AP AQ AR (some ⟨W0.heap.size, 0, none⟩) cP cQ cR _ ((HH7.out.boxRd 0 rfl).m0) ((HH7.out.rdAt 4 rfl).m0) ((HH7.out.rowRd 3 rfl).m0) ((HH7.out.rowRd 2 rfl).m0) ((HH7.out.rowRd 1 rfl).m0) ((HH7.out.rowRd 5 rfl).m0)).mono ?_
                rintro e Wj ⟨v, rfl, hown, ee⟩
                obtain ⟨AJ, cJ, rfl, _, _, _⟩ := own_form hown
                have HHj := Lib.hid (HH7.out.addRow ee hown)
                clear HH7 hown ee
                go_wp2_with fail
                refine hK.out _ _ ((HHj).out.only 7 rfl) (fun hHeld => ?_); clear hK K; (try simp only [Act.put, lyA, lyB, lyC])
                refine tS 14 ?_; (try simp only [Act.put, lyA, lyB, lyC])
                refine wpAnyH_done (by kernel_rfl) ?_ _
                have HH := Lib.hid (HHj.out.only 0 rfl)
                clear HHj
                go_wp2_with fail
                go_meet
                exact ⟨_, _, rfl, HH⟩
        · go_simp
          refine (put_any t _ 8 (by decide) rfl W1 HT.out.t0 HT.out.t1).mono ?_
          rintro e W2 ⟨v, rfl, hown, ee⟩
          obtain ⟨AP, cP, rfl, _, _, _⟩ := own_form hown
          have HH2 := Lib.hid (HH1.out.addRow ee hown)
          clear HH1 hown ee
          go_wp2_with fail
          refine hK.out _ _ (HH2.out.only 2 rfl) (fun hHeld => ?_)
          clear hK K
          (try simp only [Act.put, lyA, lyB, lyC])
          clear hHeld
          refine twoH 0 7 rfl rfl (by kernel_rfl) (by kernel_rfl) (by kernel_rfl) (fun K hK => ?_) (fun K hK => ?_)
          · go_simp
            generalize hwA : World.alloc _ _ = W3
            have HH3 := Lib.hid (HH2.out.allocRow hwA (n := 4) (size := 1) rfl (by simp only [maxLen]; omega))
            clear hwA HH2
            refine hK.out _ _ (HH3.out.only 3 rfl) (fun hHeld => ?_)
            clear hK K
            (try simp only [Act.put, lyA, lyB, lyC])
            clear hHeld
            refine twoH 1 7 rfl rfl (by kernel_rfl) (by kernel_rfl) (by kernel_rfl) (fun K hK => ?_) (fun K hK => ?_)
            · refine sh_mark Tryz.underlying33 Tryz.underlying5 HH3.out rfl rfl 0 rfl ?_
              intro W4 hm
              have HH4 := Lib.hid hm
              clear HH3 hm
              refine hK.out _ _ (HH4.out.only 3 rfl) (fun hHeld => ?_)
              clear hK K
              (try simp only [Act.put, lyA, lyB, lyC])
              clear hHeld
              refine oS 7 (fun K hK => ?_)
              go_simp
              refine (put_any f _ 4 (by decide) rfl W4 HT.out.f0 HT.out.f1).mono ?_
              rintro e W5 ⟨v, rfl, hown, ee⟩
              obtain ⟨AQ, cQ, rfl, _, _, _⟩ := own_form hown
              have HH5 := Lib.hid (HH4.out.addRow ee hown)
              clear HH4 hown ee
              go_wp2_with fail
              refine hK.out _ _ (HH5.out.only 4 rfl) (fun hHeld => ?_)
              clear hK K
              (try simp only [Act.put, lyA, lyB, lyC])
              clear hHeld
              refine oS 10 (fun K hK => ?_)
              go_simp
              refine (put_any o _ 4 (by decide) rfl W5 HT.out.o0 HT.out.o1).mono ?_
              rintro e W6 ⟨v, rfl, hown, ee⟩
              obtain ⟨AR, cR, rfl, _, _, _⟩ := own_form hown
              have HH6 := Lib.hid (HH5.out.addRow ee hown)
              clear HH5 hown ee
              go_wp2_with fail
              refine hK.out _ _ (HH6.out.only 5 rfl) (fun hHeld => ?_)
              clear hK K
              (try simp only [Act.put, lyA, lyB, lyC])
              clear hHeld
              refine oS 12 (fun K hK => ?_)
              go_simp; generalize hwA : World.alloc _ _ = W7; have HH7 := Lib.hid ((HH6).out.allocE hwA); clear hwA HH6
              refine hK.out _ _ ((HH7).out.only 6 rfl) (fun hHeld => ?_); clear hK K; (try simp only [Act.put, lyA, lyB, lyC]); clear hHeld
              refine oS 13 (fun K hK => ?_)
              go_simp
              refine (HTl.out W7 (some ⟨W2.heap.size, 0, none⟩) AP AQ AR (some ⟨W0.heap.size, 0, none⟩) cP cQ cR _ ((HH7.out.boxRd 0 rfl).m0) ((HH7.out.rdAt 3 rfl).m0) ((HH7.out.rowRd 4 rfl).m0) ((HH7.out.rowRd 2 rfl).m0) ((HH7.out.rowRd 1 rfl).m0) ((HH7.out.rowRd 5 rfl).m0)).mono ?_
              rintro e Wj ⟨v, rfl, hown, ee⟩
              obtain ⟨AJ, cJ, rfl, _, _, _⟩ := own_form hown
              have HHj := Lib.hid (HH7.out.addRow ee hown)
              clear HH7 hown ee
              go_wp2_with fail
              refine hK.out _ _ ((HHj).out.only 7 rfl) (fun hHeld => ?_); clear hK K; (try simp only [Act.put, lyA, lyB, lyC])
              refine tS 14 ?_; (try simp only [Act.put, lyA, lyB, lyC])
              refine wpAnyH_done (by kernel_rfl) ?_ _
              have HH := Lib.hid (HHj.out.only 0 rfl)
              clear HHj
              go_wp2_with fail
              go_meet
              exact ⟨_, _, rfl, HH⟩
            · go_simp
              refine (put_any f _ 4 (by decide) rfl W3 HT.out.f0 HT.out.f1).mono ?_
              rintro e W4 ⟨v, rfl, hown, ee⟩
              obtain ⟨AQ, cQ, rfl, _, _, _⟩ := own_form hown
              have HH4 := Lib.hid (HH3.out.addRow ee hown)
              clear HH3 hown ee
              go_wp2_with fail
              refine hK.out _ _ (HH4.out.only 4 rfl) (fun hHeld => ?_)
              clear hK K
              (try simp only [Act.put, lyA, lyB, lyC])
              clear hHeld
              refine twoH 1 10 rfl rfl (by kernel_rfl) (by kernel_rfl) (by kernel_rfl) (fun K hK => ?_) (fun K hK => ?_)
              · refine sh_mark Tryz.underlying33 Tryz.underlying5 HH4.out rfl rfl 1 rfl ?_
                intro W5 hm
                have HH5 := Lib.hid hm
                clear HH4 hm
                refine hK.out _ _ (HH5.out.only 4 rfl) (fun hHeld => ?_)
                clear hK K
                (try simp only [Act.put, lyA, lyB, lyC])
                clear hHeld
                refine oS 10 (fun K hK => ?_)
                go_simp
                refine (put_any o _ 4 (by decide) rfl W5 HT.out.o0 HT.out.o1).mono ?_
                rintro e W6 ⟨v, rfl, hown, ee⟩
                obtain ⟨AR, cR, rfl, _, _, _⟩ := own_form hown
                have HH6 := Lib.hid (HH5.out.addRow ee hown)
                clear HH5 hown ee
                go_wp2_with fail
                refine hK.out _ _ (HH6.out.only 5 rfl) (fun hHeld => ?_)
                clear hK K
                (try simp only [Act.put, lyA, lyB, lyC])
                clear hHeld
                refine oS 12 (fun K hK => ?_)
                go_simp; generalize hwA : World.alloc _ _ = W7; have HH7 := Lib.hid ((HH6).out.allocE hwA); clear hwA HH6
                refine hK.out _ _ ((HH7).out.only 6 rfl) (fun hHeld => ?_); clear hK K; (try simp only [Act.put, lyA, lyB, lyC]); clear hHeld
                refine oS 13 (fun K hK => ?_)
                go_simp
                refine (HTl.out W7 (some ⟨W2.heap.size, 0, none⟩) AP AQ AR (some ⟨W0.heap.size, 0, none⟩) cP cQ cR _ ((HH7.out.boxRd 0 rfl).m0) ((HH7.out.rdAt 3 rfl).m0) ((HH7.out.rowRd 4 rfl).m0) ((HH7.out.rowRd 2 rfl).m0) ((HH7.out.rowRd 1 rfl).m0) ((HH7.out.rowRd 5 rfl).m0)).mono ?_
                rintro e Wj ⟨v, rfl, hown, ee⟩
                obtain ⟨AJ, cJ, rfl, _, _, _⟩ := own_form hown
                have HHj := Lib.hid (HH7.out.addRow ee hown)
                clear HH7 hown ee
                go_wp2_with fail
                refine hK.out _ _ ((HHj).out.only 7 rfl) (fun hHeld => ?_); clear hK K; (try simp only [Act.put, lyA, lyB, lyC])
                refine tS 14 ?_; (try simp only [Act.put, lyA, lyB, lyC])
                refine wpAnyH_done (by kernel_rfl) ?_ _
                have HH := Lib.hid (HHj.out.only 0 rfl)
                clear HHj
                go_wp2_with fail
                go_meet
                exact ⟨_, _, rfl, HH⟩
              · go_simp
                refine (put_any o _ 4 (by decide) rfl W4 HT.out.o0 HT.out.o1).mono ?_
                rintro e W5 ⟨v, rfl, hown, ee⟩
                obtain ⟨AR, cR, rfl, _, _, _⟩ := own_form hown
                have HH5 := Lib.hid (HH4.out.addRow ee hown)
                clear HH4 hown ee
                go_wp2_with fail
                refine hK.out _ _ (HH5.out.only 5 rfl) (fun hHeld => ?_)
                clear hK K
                (try simp only [Act.put, lyA, lyB, lyC])
                clear hHeld
                refine oS 1 (fun K hK => ?_)
                refine sh_mark Tryz.underlying33 Tryz.underlying5 HH5.out rfl rfl 2 rfl ?_
                intro W6 hm
                have HH6 := Lib.hid hm
                clear HH5 hm
                refine hK.out _ _ (HH6.out.only 5 rfl) (fun hHeld => ?_)
                clear hK K
                (try simp only [Act.put, lyA, lyB, lyC])
                clear hHeld
                refine oS 12 (fun K hK => ?_)
                go_simp; generalize hwA : World.alloc _ _ = W7; have HH7 := Lib.hid ((HH6).out.allocE hwA); clear hwA HH6
                refine hK.out _ _ ((HH7).out.only 6 rfl) (fun hHeld => ?_); clear hK K; (try simp only [Act.put, lyA, lyB, lyC]); clear hHeld
                refine oS 13 (fun K hK => ?_)
                go_simp
                refine (HTl.out W7 (some ⟨W2.heap.size, 0, none⟩) AP AQ AR (some ⟨W0.heap.size, 0, none⟩) cP cQ cR _ ((HH7.out.boxRd 0 rfl).m0) ((HH7.out.rdAt 3 rfl).m0) ((HH7.out.rowRd 4 rfl).m0) ((HH7.out.rowRd 2 rfl).m0) ((HH7.out.rowRd 1 rfl).m0) ((HH7.out.rowRd 5 rfl).m0)).mono ?_
                rintro e Wj ⟨v, rfl, hown, ee⟩
                obtain ⟨AJ, cJ, rfl, _, _, _⟩ := own_form hown
                have HHj := Lib.hid (HH7.out.addRow ee hown)
                clear HH7 hown ee
                go_wp2_with fail
                refine hK.out _ _ ((HHj).out.only 7 rfl) (fun hHeld => ?_); clear hK K; (try simp only [Act.put, lyA, lyB, lyC])
                refine tS 14 ?_; (try simp only [Act.put, lyA, lyB, lyC])
                refine wpAnyH_done (by kernel_rfl) ?_ _
                have HH := Lib.hid (HHj.out.only 0 rfl)
                clear HHj
                go_wp2_with fail
                go_meet
                exact ⟨_, _, rfl, HH⟩
          · go_simp
            refine (put_any f _ 4 (by decide) rfl W2 HT.out.f0 HT.out.f1).mono ?_
            rintro e W3 ⟨v, rfl, hown, ee⟩
            obtain ⟨AQ, cQ, rfl, _, _, _⟩ := own_form hown
            have HH3 := Lib.hid (HH2.out.addRow ee hown)
            clear HH2 hown ee
            go_wp2_with fail
            refine hK.out _ _ (HH3.out.only 3 rfl) (fun hHeld => ?_)
            clear hK K
            (try simp only [Act.put, lyA, lyB, lyC])
            clear hHeld
            refine twoH 0 10 rfl rfl (by kernel_rfl) (by kernel_rfl) (by kernel_rfl) (fun K hK => ?_) (fun K hK => ?_)
            · go_simp
              generalize hwA : World.alloc _ _ = W4
              have HH4 := Lib.hid (HH3.out.allocRow hwA (n := 4) (size := 1) rfl (by simp only [maxLen]; omega))
              clear hwA HH3
              refine hK.out _ _ (HH4.out.only 4 rfl) (fun hHeld => ?_)
              clear hK K
              (try simp only [Act.put, lyA, lyB, lyC])
              clear hHeld
              refine twoH 1 10 rfl rfl (by kernel_rfl) (by kernel_rfl) (by kernel_rfl) (fun K hK => ?_) (fun K hK => ?_)
              · refine sh_mark Tryz.underlying33 Tryz.underlying5 HH4.out rfl rfl 0 rfl ?_
                intro W5 hm
                have HH5 := Lib.hid hm
                clear HH4 hm
                refine hK.out _ _ (HH5.out.only 4 rfl) (fun hHeld => ?_)
                clear hK K
                (try simp only [Act.put, lyA, lyB, lyC])
                clear hHeld
                refine oS 10 (fun K hK => ?_)
                go_simp
                refine (put_any o _ 4 (by decide) rfl W5 HT.out.o0 HT.out.o1).mono ?_
                rintro e W6 ⟨v, rfl, hown, ee⟩
                obtain ⟨AR, cR, rfl, _, _, _⟩ := own_form hown
                have HH6 := Lib.hid (HH5.out.addRow ee hown)
                clear HH5 hown ee
                go_wp2_with fail
                refine hK.out _ _ (HH6.out.only 5 rfl) (fun hHeld => ?_)
                clear hK K
                (try simp only [Act.put, lyA, lyB, lyC])
                clear hHeld
                refine oS 12 (fun K hK => ?_)
                go_simp; generalize hwA : World.alloc _ _ = W7; have HH7 := Lib.hid ((HH6).out.allocE hwA); clear hwA HH6
                refine hK.out _ _ ((HH7).out.only 6 rfl) (fun hHeld => ?_); clear hK K; (try simp only [Act.put, lyA, lyB, lyC]); clear hHeld
                refine oS 13 (fun K hK => ?_)
                go_simp
                refine (HTl.out W7 (some ⟨W3.heap.size, 0, none⟩) AP AQ AR (some ⟨W0.heap.size, 0, none⟩) cP cQ cR _ ((HH7.out.boxRd 0 rfl).m0) ((HH7.out.rdAt 2 rfl).m0) ((HH7.out.rowRd 4 rfl).m0) ((HH7.out.rowRd 3 rfl).m0) ((HH7.out.rowRd 1 rfl).m0) ((HH7.out.rowRd 5 rfl).m0)).mono ?_
                rintro e Wj ⟨v, rfl, hown, ee⟩
                obtain ⟨AJ, cJ, rfl, _, _, _⟩ := own_form hown
                have HHj := Lib.hid (HH7.out.addRow ee hown)
                clear HH7 hown ee
                go_wp2_with fail
                refine hK.out _ _ ((HHj).out.only 7 rfl) (fun hHeld => ?_); clear hK K; (try simp only [Act.put, lyA, lyB, lyC])
                refine tS 14 ?_; (try simp only [Act.put, lyA, lyB, lyC])
                refine wpAnyH_done (by kernel_rfl) ?_ _
                have HH := Lib.hid (HHj.out.only 0 rfl)
                clear HHj
                go_wp2_with fail
                go_meet
                exact ⟨_, _, rfl, HH⟩
              · go_simp
                refine (put_any o _ 4 (by decide) rfl W4 HT.out.o0 HT.out.o1).mono ?_
                rintro e W5 ⟨v, rfl, hown, ee⟩
                obtain ⟨AR, cR, rfl, _, _, _⟩ := own_form hown
                have HH5 := Lib.hid (HH4.out.addRow ee hown)
                clear HH4 hown ee
                go_wp2_with fail
                refine hK.out _ _ (HH5.out.only 5 rfl) (fun hHeld => ?_)
                clear hK K
                (try simp only [Act.put, lyA, lyB, lyC])
                clear hHeld
                refine oS 1 (fun K hK => ?_)
                refine sh_mark Tryz.underlying33 Tryz.underlying5 HH5.out rfl rfl 1 rfl ?_
                intro W6 hm
                have HH6 := Lib.hid hm
                clear HH5 hm
                refine hK.out _ _ (HH6.out.only 5 rfl) (fun hHeld => ?_)
                clear hK K
                (try simp only [Act.put, lyA, lyB, lyC])
                clear hHeld
                refine oS 12 (fun K hK => ?_)
                go_simp; generalize hwA : World.alloc _ _ = W7; have HH7 := Lib.hid ((HH6).out.allocE hwA); clear hwA HH6
                refine hK.out _ _ ((HH7).out.only 6 rfl) (fun hHeld => ?_); clear hK K; (try simp only [Act.put, lyA, lyB, lyC]); clear hHeld
                refine oS 13 (fun K hK => ?_)
                go_simp
                refine (HTl.out W7 (some ⟨W3.heap.size, 0, none⟩) AP AQ AR (some ⟨W0.heap.size, 0, none⟩) cP cQ cR _ ((HH7.out.boxRd 0 rfl).m0) ((HH7.out.rdAt 2 rfl).m0) ((HH7.out.rowRd 4 rfl).m0) ((HH7.out.rowRd 3 rfl).m0) ((HH7.out.rowRd 1 rfl).m0) ((HH7.out.rowRd 5 rfl).m0)).mono ?_
                rintro e Wj ⟨v, rfl, hown, ee⟩
                obtain ⟨AJ, cJ, rfl, _, _, _⟩ := own_form hown
                have HHj := Lib.hid (HH7.out.addRow ee hown)
                clear HH7 hown ee
                go_wp2_with fail
                refine hK.out _ _ ((HHj).out.only 7 rfl) (fun hHeld => ?_); clear hK K; (try simp only [Act.put, lyA, lyB, lyC])
                refine tS 14 ?_; (try simp only [Act.put, lyA, lyB, lyC])
                refine wpAnyH_done (by kernel_rfl) ?_ _
                have HH := Lib.hid (HHj.out.only 0 rfl)
                clear HHj
                go_wp2_with fail
                go_meet
                exact ⟨_, _, rfl, HH⟩
            · go_simp
              refine (put_any o _ 4 (by decide) rfl W3 HT.out.o0 HT.out.o1).mono ?_
              rintro e W4 ⟨v, rfl, hown, ee⟩
              obtain ⟨AR, cR, rfl, _, _, _⟩ := own_form hown
              have HH4 := Lib.hid (HH3.out.addRow ee hown)
              clear HH3 hown ee
              go_wp2_with fail
              refine hK.out _ _ (HH4.out.only 4 rfl) (fun hHeld => ?_)
              clear hK K
              (try simp only [Act.put, lyA, lyB, lyC])
              clear hHeld
              refine oS 0 (fun K hK => ?_)
              go_simp
              generalize hwA : World.alloc _ _ = W5
              have HH5 := Lib.hid (HH4.out.allocRow hwA (n := 4) (size := 1) rfl (by simp only [maxLen]; omega))
              clear hwA HH4
              refine hK.out _ _ (HH5.out.only 5 rfl) (fun hHeld => ?_)
              clear hK K
              (try simp only [Act.put, lyA, lyB, lyC])
              clear hHeld
              refine oS 1 (fun K hK => ?_)
              refine sh_mark Tryz.underlying33 Tryz.underlying5 HH5.out rfl rfl 0 rfl ?_
              intro W6 hm
              have HH6 := Lib.hid hm
              clear HH5 hm
              refine hK.out _ _ (HH6.out.only 5 rfl) (fun hHeld => ?_)
              clear hK K
              (try simp only [Act.put, lyA, lyB, lyC])
              clear hHeld
              refine oS 12 (fun K hK => ?_)
              go_simp; generalize hwA : World.alloc _ _ = W7; have HH7 := Lib.hid ((HH6).out.allocE hwA); clear hwA HH6
              refine hK.out _ _ ((HH7).out.only 6 rfl) (fun hHeld => ?_); clear hK K; (try simp only [Act.put, lyA, lyB, lyC]); clear hHeld
              refine oS 13 (fun K hK => ?_)
              go_simp
              refine (HTl.out W7 (some ⟨W4.heap.size, 0, none⟩) AP AQ AR (some ⟨W0.heap.size, 0, none⟩) cP cQ cR _ ((HH7.out.boxRd 0 rfl).m0) ((HH7.out.rdAt 1 rfl).m0) ((HH7.out.rowRd 4 rfl).m0) ((HH7.out.rowRd 3 rfl).m0) ((HH7.out.rowRd 2 rfl).m0) ((HH7.out.rowRd 5 rfl).m0)).mono ?_
              rintro e Wj ⟨v, rfl, hown, ee⟩
              obtain ⟨AJ, cJ, rfl, _, _, _⟩ := own_form hown
              have HHj := Lib.hid (HH7.out.addRow ee hown)
              clear HH7 hown ee
              go_wp2_with fail
              refine hK.out _ _ ((HHj).out.only 7 rfl) (fun hHeld => ?_); clear hK K; (try simp only [Act.put, lyA, lyB, lyC])
              refine tS 14 ?_; (try simp only [Act.put, lyA, lyB, lyC])
              refine wpAnyH_done (by kernel_rfl) ?_ _
              have HH := Lib.hid (HHj.out.only 0 rfl)
              clear HHj
              go_wp2_with fail
              go_meet
              exact ⟨_, _, rfl, HH⟩
    case rest =>
      obtain ⟨AJ, cJ, rfl, HH⟩ := hcut
      have HOf := Lib.hid (fof_any wc AJ 32 cJ PH HL.out.symm ((HH.out.rowRd 0 rfl).m0) (own_form2 (HH.out.rowAt 0 rfl)).1 (by decide)); go_wp2_with fail; refine HOf.out.mono ?_; rintro e Wf ⟨rfl, ef⟩; have HHf := Lib.hid (HH.out.later ef); clear HH ef HOf; generalize hsF : feed Su.zero PH = sF at *; go_wp2_with fail; refine (octets_any sF Wf HW.out).mono ?_; rintro e Wp ⟨v, rfl, hown, ee⟩; obtain ⟨Ap, cp, rfl, _, _, _⟩ := own_form hown; have HHp := Lib.hid (HHf.out.addRow ee hown); clear HHf hown ee; go_wp2_with fail; generalize hwA : World.alloc Wp _ = Wb; have HHb := Lib.hid (HHp.out.allocE hwA); clear hwA HHp; refine (join_any Wb _ 2 2 [⟨AJ, 32, cJ, PH⟩, ⟨Ap, 32, cp, sumO sF⟩] rfl ((HHb.out.boxRd 0 rfl).m0) (fun x hx => by simp only [List.mem_cons, List.not_mem_nil, or_false] at hx; rcases hx with rfl | rfl; exact ⟨HL.out.symm, (HHb.out.rowRd 2 rfl).m0⟩; exact ⟨by rw [sumO_length], (HHb.out.rowRd 1 rfl).m0⟩) (by decide) (by simp [catL, sumO_length, HL.out])).mono ?_; rintro e Wz ⟨v, rfl, hown, ee⟩; have HHz := Lib.hid (HHb.out.addRow ee hown); clear HHb hown ee; go_wp2_with fail; go_ret2; exact ⟨_, rfl, ⟨_, by rw [HP.out]; have h := HHz.out.rowAt 0 rfl; simpa [catL] using h⟩, HHz.out.ext⟩
  · have HV := Lib.hid (show (V == 0) = false by simpa using h1)
    go_enter Tryz.func58, Tryz.ntmps58
    go_upto_region 1 with fail
    generalize hwH : World.alloc w _ = w1; have HH := Lib.hid (Heap.one hwH); clear hwH
    have sizeUb : (Tryz.prog.info? 27).map (·.size) = some 3 := by kernel_rfl
    have hv0 : V ≠ 0 := h1
    go_wp2_with (first | (refine shl_load HH.out sizeUb (by kernel_rfl) rfl rfl rfl 0 rfl rfl ?_) | (go_at_call 40; (with_reducible refine (HC.out _).mono ?_); rintro e wC ⟨rfl, eC⟩; have HHn := Lib.hid (HH.out.later eC); clear HH eC; have HH := HHn; clear HHn))
    go_ret2
    exact ⟨_, rfl, ⟨0, World.ownsRow_nil _ _ _ _⟩, HH.out.ext⟩
end Go.Proofs.YtfongpdeflfioaaGreat
