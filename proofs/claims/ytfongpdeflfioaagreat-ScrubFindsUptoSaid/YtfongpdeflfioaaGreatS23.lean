/- The texts Pla, Cml, Get, Alt, Ale in one file. -/
import Derived.Test.YtfongpdeflfioaaGreatS21
import Derived.Test.YtfongpdeflfioaaGreatS22
import Derived.Test.YtfongpdeflfioaaGreatS2
/- What placing objects comes to: each stands where it stood, or in sectors that were free; no sector twice. -/
namespace Go.Proofs.YtfongpdeflfioaaGreat
open Go.RowKit Go.Maps Go.Sort Go.Shelf
set_option linter.unusedVariables false
set_option linter.unusedSimpArgs false
theorem bless_trans : ∀ {a b c : List UInt8}, Op.bytesLess a b = true → Op.bytesLess b c = true → Op.bytesLess a c = true
  | [], [], _, h, _ => by simp [Op.bytesLess] at h
  | _ :: _, [], _, h, _ => by simp [Op.bytesLess] at h
  | [], _ :: _, [], _, h => by simp [Op.bytesLess] at h
  | [], _ :: _, _ :: _, _, _ => by simp [Op.bytesLess]
  | _ :: _, _ :: _, [], _, h => by simp [Op.bytesLess] at h
  | a :: x, b :: y, c :: z, h1, h2 => by
    have ih := @bless_trans x y z
    simp only [Op.bytesLess, Bool.or_eq_true, Bool.and_eq_true, decide_eq_true_eq, beq_iff_eq] at h1 h2 ⊢
    rcases h1 with h1 | ⟨rfl, h1⟩
    · rcases h2 with h2 | ⟨rfl, h2⟩
      · exact .inl (UInt8.lt_trans h1 h2)
      · exact .inl h1
    · rcases h2 with h2 | ⟨rfl, h2⟩
      · exact .inl h2
      · exact .inr ⟨rfl, ih h1 h2⟩
theorem bless_irr : ∀ a : List UInt8, Op.bytesLess a a = false
  | [] => by simp [Op.bytesLess]
  | a :: x => by simp [Op.bytesLess, UInt8.lt_irrefl, bless_irr x]
theorem lessB_trans {a b c : ByteArray} (h1 : lessB a b = true) (h2 : lessB b c = true) : lessB a c = true := bless_trans h1 h2
theorem lessB_ne {a b : ByteArray} (h : lessB a b = true) : a ≠ b := fun e => by
  subst e
  rw [lessB, bless_irr] at h
  cases h
theorem risK_at {ks : List ByteArray} (h : risK ks = true) : ∀ j i, i < j → (hj : j < ks.length) → lessB (ks.getD i .empty) (ks.getD j .empty) = true := by
  have hstep : ∀ j, 0 < j → j < ks.length → lessB (ks.getD (j - 1) .empty) (ks.getD j .empty) = true := fun j h0 hj => by
    rw [risK, Bool.not_eq_true', List.any_eq_false] at h
    have h1 := h j (List.mem_range.2 hj)
    simp only [Bool.or_eq_true, Bool.and_eq_true, decide_eq_true_eq, Bool.not_eq_true', not_or, not_and, Bool.not_eq_false] at h1
    exact h1.2 h0
  intro j
  induction j with
  | zero => intro i hi; omega
  | succ j ih =>
    intro i hi hj
    have h1 := hstep (j + 1) (by omega) hj
    rw [Nat.add_sub_cancel] at h1
    rcases Nat.lt_or_ge i j with h2 | h2
    · exact lessB_trans (ih i h2 (by omega)) h1
    · obtain rfl : i = j := by omega
      exact h1
theorem ris_ne {xs : List Ob} (h : risB xs = true) {i j : Nat} (hij : i < j) (hj : j < xs.length) : (xs[i]).key ≠ (xs[j]).key := by
  rw [risB_keys] at h
  have h1 := risK_at h j i hij (by rw [List.length_map]; exact hj)
  rw [List.getD_eq_getElem?_getD, List.getD_eq_getElem?_getD, List.getElem?_map, List.getElem?_map, List.getElem?_eq_getElem hj, List.getElem?_eq_getElem (by omega)] at h1
  exact lessB_ne h1
theorem free_nodup (total : Int) (l : List Int) : (freeL total l).Nodup := by
  have h : SortI (freeL total l) := foldDel_sorted _ _ (upI_sorted _)
  exact h.imp fun h => by omega
theorem flat_disj {O : List ObS} (h : (O.flatMap fun o => o.2.2).Nodup) {p o : ObS} (hp : p ∈ O) (ho : o ∈ O) (hne : p ≠ o) {y : Int} (h1 : y ∈ p.2.2) (h2 : y ∈ o.2.2) : False := by
  induction O with
  | nil => cases hp
  | cons q O ih =>
    rw [List.flatMap_cons, List.nodup_append] at h
    obtain ⟨_, hT, hd⟩ := h
    rcases List.mem_cons.1 hp with e1 | hp2
    · rcases List.mem_cons.1 ho with e2 | ho2
      · exact hne (e1.trans e2.symm)
      · exact hd y (e1 ▸ h1) y (List.mem_flatMap.2 ⟨o, ho2, h2⟩) rfl
    · rcases List.mem_cons.1 ho with e2 | ho2
      · exact hd y (e2 ▸ h2) y (List.mem_flatMap.2 ⟨p, hp2, h1⟩) rfl
      · exact ih hT hp2 ho2
structure PlI (a : Abs) (F : List Int) (xs : List Ob) (st : PlSt) (tk : List Int) : Prop where
  free : F = tk ++ st.1
  pos : st.2.1.map (fun x => x.2.1) = tk
  fl : ∀ x ∈ st.2.1, x.1 = false
  len64 : ∀ x ∈ st.2.1, x.2.2.length = 64
  objs : ∀ o ∈ st.2.2, o ∈ a.O ∨ ((∀ y ∈ o.2.2, y ∈ tk) ∧ o.2.2.length = cntP o.2.1.length ∧ ∀ k (h : k < o.2.2.length), (false, o.2.2[k], pgB (partO o.2.1 k) 0) ∈ st.2.1)
  nd : (st.2.2.flatMap fun o => o.2.2).Nodup
  kd : st.2.2.map (fun o => (o.1, o.2.1)) = xs.map fun x => (x.key, x.data.xs)
theorem zip_pos {ys : List Int} {ps : List (List UInt8)} (h : ys.length = ps.length) : (List.zipWith (fun y p => ((false, y, p) : Bool × Int × List UInt8)) ys ps).map (fun x => x.2.1) = ys := by
  rw [List.map_zipWith]
  induction ys generalizing ps with
  | nil => rfl
  | cons y ys ih =>
    cases ps with
    | nil => simp at h
    | cons p ps => rw [List.zipWith_cons_cons, ih (by simpa using h)]
theorem zip_mem {ys : List Int} {ps : List (List UInt8)} {x : Bool × Int × List UInt8} (h : x ∈ List.zipWith (fun y p => ((false, y, p) : Bool × Int × List UInt8)) ys ps) : x.1 = false ∧ x.2.2 ∈ ps := by
  obtain ⟨i, hi, rfl⟩ := List.getElem_of_mem h
  rw [List.length_zipWith] at hi
  rw [List.getElem_zipWith]
  exact ⟨rfl, List.getElem_mem _⟩
theorem cutB_len (b : List UInt8) : (cutB b).length = cntP b.length := by simp [cutB]
theorem cutB_64 {b p : List UInt8} (h : p ∈ cutB b) : p.length = 64 := by
  rw [cutB] at h
  obtain ⟨k, _, rfl⟩ := List.mem_map.1 h
  exact pgB_len _ _ (partO_len _ _)
theorem plAll_inv {s : Sto} {w : World} {lo hi : Nat} (h : Sto.At w lo hi s) (hk : s.abs.ok) {l : List Ob} (hr : risB l = true) (hl : ∀ x ∈ l, x.data.n = x.data.xs.length) :
    ∀ k, k ≤ l.length → ∀ st, plAll s (l.take k) = some st → ∃ tk, PlI s.abs (freeL (s.dev.secs.n : Int) (usedL s)) (l.take k) st tk
  | 0, _, st, e => by
    have e1 : st = (freeL (s.dev.secs.n : Int) (usedL s), [], []) := (Option.some.inj e).symm
    subst e1
    exact ⟨[], rfl, rfl, fun x hx => by simp at hx, fun x hx => by simp at hx, fun o ho => by simp at ho, List.nodup_nil, rfl⟩
  | k + 1, hk1, st, e => by
    have hkl : k < l.length := by omega
    rw [List.take_succ_eq_append_getElem hkl, plAll_snoc] at e
    obtain ⟨st0, h1, h2⟩ := Option.bind_eq_some_iff.1 e
    obtain ⟨tk, hI⟩ := plAll_inv h hk hr hl k (by omega) st0 h1
    have hxl := hl l[k] (List.getElem_mem _)
    have hs2 : 2 ≤ (s.dev.secs.n : Int) := by have := hk.n2; have := secv_len h; omega
    have hFu : ∀ y ∈ freeL (s.dev.secs.n : Int) (usedL s), y ∉ s.abs.used := fun y hy => by rw [used_abs]; exact ((mem_freeL hs2).1 hy).2.2
    have hFn := free_nodup (s.dev.secs.n : Int) (usedL s)
    have hOu : ∀ o ∈ s.abs.O, ∀ y ∈ o.2.2, y ∈ s.abs.used := fun o ho y hy => List.mem_append_right _ (List.mem_flatMap.2 ⟨o, ho, hy⟩)
    have hnd : (s.abs.O.flatMap fun o => o.2.2).Nodup := (List.nodup_append.1 hk.nd).2.1
    have hkey : ∀ p ∈ st0.2.2, p.1 ≠ l[k].key := fun p hp => by
      have h3 : (p.1, p.2.1) ∈ (l.take k).map fun x => (x.key, x.data.xs) := hI.kd ▸ List.mem_map_of_mem (f := fun o : ObS => (o.1, o.2.1)) hp
      obtain ⟨x, hx, e3⟩ := List.mem_map.1 h3
      obtain ⟨i, hi', rfl⟩ := List.getElem_of_mem hx
      rw [List.length_take] at hi'
      rw [List.getElem_take] at e3
      have e4 : (l[i]'(by omega)).key = p.1 := congrArg Prod.fst e3
      rw [← e4]
      exact ris_ne hr (by omega) hkl
    rw [List.take_succ_eq_append_getElem hkl]
    generalize freeL (s.dev.secs.n : Int) (usedL s) = F at *
    unfold plStep at h2
    split at h2
    · rename_i hkp
      cases h2
      obtain ⟨o1, ho1⟩ := Option.isSome_iff_exists.1 hkp
      have hsm : sameB l[k].key l[k].data.xs o1 = true := List.find?_some ho1
      have hm1 : o1 ∈ s.objs.xs := List.mem_of_find?_eq_some ho1
      unfold sameB at hsm
      simp only [Bool.and_eq_true, decide_eq_true_eq] at hsm
      have hke : keptL s.objs.xs l[k].key l[k].data.xs = o1.locs.xs := by rw [keptL, ho1]; rfl
      have hst : ((l[k].key, l[k].data.xs, keptL s.objs.xs l[k].key l[k].data.xs) : ObS) = strip o1 := by rw [hke, ← hsm.1, ← hsm.2]; rfl
      have hin : strip o1 ∈ s.abs.O := List.mem_map_of_mem hm1
      refine ⟨tk, hI.free, hI.pos, hI.fl, hI.len64, fun o ho => ?_, ?_, ?_⟩
      · rcases List.mem_append.1 ho with ho | ho
        · exact hI.objs o ho
        · simp only [List.mem_singleton] at ho
          subst ho
          rw [hst]
          exact .inl hin
      · rw [List.flatMap_append, List.nodup_append]
        refine ⟨hI.nd, ?_, fun y hy z hz e => ?_⟩
        · rw [List.flatMap_singleton, hst]
          obtain ⟨i, hi', e5⟩ := List.getElem_of_mem hin
          have hsub : (strip o1).2.2.Sublist (s.abs.O.flatMap fun o => o.2.2) := by
            have : s.abs.O = s.abs.O.take i ++ (s.abs.O[i] :: s.abs.O.drop (i + 1)) := by rw [List.getElem_cons_drop, List.take_append_drop]
            rw [this, List.flatMap_append, List.flatMap_cons, e5]
            exact (List.sublist_append_left _ _).trans (List.sublist_append_right _ _)
          exact List.Nodup.sublist hsub hnd
        · subst e
          rw [List.flatMap_singleton, hst] at hz
          obtain ⟨p, hp, hy⟩ := List.mem_flatMap.1 hy
          rcases hI.objs p hp with hpO | ⟨hpt, _, _⟩
          · have hne : p ≠ strip o1 := fun e6 => hkey p hp (by rw [e6]; exact hsm.1)
            exact flat_disj hnd hpO hin hne hy hz
          · exact hFu y (by rw [hI.free]; exact List.mem_append_left _ (hpt y hy)) (hOu _ hin y hz)
      · rw [List.map_append, List.map_append, hI.kd]; rfl
    · split at h2
      · rename_i hkn hroom
        cases h2
        have hc : (st0.1.take (cntP l[k].data.n)).length = cntP l[k].data.n := by rw [List.length_take]; omega
        have hzl : (st0.1.take (cntP l[k].data.n)).length = (cutB l[k].data.xs).length := by rw [hc, cutB_len, hxl]
        refine ⟨tk ++ st0.1.take (cntP l[k].data.n), ?_, ?_, fun x hx => ?_, fun x hx => ?_, fun o ho => ?_, ?_, ?_⟩
        · show F = (tk ++ st0.1.take _) ++ st0.1.drop _
          rw [List.append_assoc, List.take_append_drop]; exact hI.free
        · show (st0.2.1 ++ _).map _ = _
          rw [List.map_append, hI.pos, zip_pos hzl]
        · rcases List.mem_append.1 hx with hx | hx
          · exact hI.fl x hx
          · exact (zip_mem hx).1
        · rcases List.mem_append.1 hx with hx | hx
          · exact hI.len64 x hx
          · exact cutB_64 (zip_mem hx).2
        · rcases List.mem_append.1 ho with ho | ho
          · rcases hI.objs o ho with hO | ⟨g1, g2, g3⟩
            · exact .inl hO
            · exact .inr ⟨fun y hy => List.mem_append_left _ (g1 y hy), g2, fun i hi' => List.mem_append_left _ (g3 i hi')⟩
          · simp only [List.mem_singleton] at ho
            subst ho
            refine .inr ⟨fun y hy => List.mem_append_right _ hy, by show (st0.1.take _).length = _; rw [hc, hxl], fun i hi' => List.mem_append_right _ ?_⟩
            have hi2 : i < (st0.1.take (cntP l[k].data.n)).length := hi'
            have hi3 : i < (List.zipWith (fun y p => ((false, y, p) : Bool × Int × List UInt8)) (st0.1.take (cntP l[k].data.n)) (cutB l[k].data.xs)).length := by rw [List.length_zipWith]; omega
            have h5 := List.getElem_mem hi3
            rw [List.getElem_zipWith] at h5
            have h6 : (cutB l[k].data.xs)[i]'(by omega) = pgB (partO l[k].data.xs i) 0 := by simp [cutB]
            rw [h6] at h5
            exact h5
        · rw [List.flatMap_append, List.nodup_append]
          have hF2 := hFn
          rw [hI.free, List.nodup_append] at hF2
          refine ⟨hI.nd, ?_, fun y hy z hz e => ?_⟩
          · rw [List.flatMap_singleton]
            exact List.Nodup.sublist (List.take_sublist _ _) hF2.2.1
          · subst e
            rw [List.flatMap_singleton] at hz
            have hz1 : y ∈ st0.1 := List.mem_of_mem_take hz
            obtain ⟨p, hp, hy⟩ := List.mem_flatMap.1 hy
            rcases hI.objs p hp with hpO | ⟨hpt, _, _⟩
            · exact hFu y (by rw [hI.free]; exact List.mem_append_right _ hz1) (hOu _ hpO y hy)
            · exact hF2.2.2 y (hpt y hy) y hz1 rfl
        · rw [List.map_append, List.map_append, hI.kd]; rfl
      · cases h2
end Go.Proofs.YtfongpdeflfioaaGreat
/- Commit's plain law: what it tells is held by its device; a device of which the commit was cut off holds the one or the other. -/
namespace Go.Proofs.YtfongpdeflfioaaGreat
open Go.RowKit Go.Maps Go.Sort Go.Shelf
set_option linter.unusedVariables false
set_option linter.unusedSimpArgs false
theorem setV_len (kp : Nat → Bool) (ws : List (Int × List UInt8)) (ss : List (List UInt8)) : ∀ k, (setV kp ws ss k).length = ss.length
  | 0 => rfl
  | k + 1 => by
    rw [setV]
    split
    · split
      · rw [List.length_set]; exact setV_len kp ws ss k
      · exact setV_len kp ws ss k
    · exact setV_len kp ws ss k
theorem setV_64 (kp : Nat → Bool) {ws : List (Int × List UInt8)} {ss : List (List UInt8)} (hs : ∀ s ∈ ss, s.length = 64) (hw : ∀ x ∈ ws, x.2.length = 64) : ∀ k, ∀ s ∈ setV kp ws ss k, s.length = 64
  | 0 => hs
  | k + 1 => by
    rw [setV]
    split
    · rename_i x hx
      split
      · intro s hm
        rcases List.mem_or_eq_of_mem_set hm with h | h
        · exact setV_64 kp hs hw k s h
        · rw [h]; exact hw x (List.mem_of_getElem? hx)
      · exact setV_64 kp hs hw k
    · exact setV_64 kp hs hw k
theorem setV_ne (kp : Nat → Bool) {ws : List (Int × List UInt8)} {ss : List (List UInt8)} {p : Nat} (h : ∀ x ∈ ws, x.1.toNat ≠ p) : ∀ k, (setV kp ws ss k)[p]? = ss[p]?
  | 0 => rfl
  | k + 1 => by
    rw [setV]
    split
    · rename_i x hx
      split
      · rw [List.getElem?_set_ne (h x (List.mem_of_getElem? hx))]; exact setV_ne kp h k
      · exact setV_ne kp h k
    · exact setV_ne kp h k
theorem setV_at {ws : List (Int × List UInt8)} {ss : List (List UInt8)} (hn : (ws.map fun x => x.1.toNat).Nodup) (hb : ∀ x ∈ ws, x.1.toNat < ss.length) : ∀ k, k ≤ ws.length → ∀ i, (hi : i < k) → (hw : i < ws.length) → (setV (fun _ => true) ws ss k)[(ws[i]).1.toNat]? = some (ws[i]).2
  | 0, _, i, hi, _ => absurd hi (Nat.not_lt_zero i)
  | k + 1, hk, i, hi, hw => by
    have hkl : k < ws.length := by omega
    rw [setV, List.getElem?_eq_getElem hkl]
    simp only [if_true]
    by_cases e : i = k
    · subst e
      rw [List.getElem?_set_self (by rw [setV_len]; exact hb _ (List.getElem_mem _))]
    · rw [List.getElem?_set_ne]
      · exact setV_at hn hb k (by omega) i (by omega) hw
      · rw [List.nodup_iff_pairwise_ne, List.pairwise_iff_getElem] at hn
        have := hn i k (by rw [List.length_map]; omega) (by rw [List.length_map]; omega) (by omega)
        simp only [List.getElem_map] at this
        exact fun h => this h.symm
abbrev wr3 (x : Bool × Int × List UInt8) : Int × List UInt8 := (x.2.1, x.2.2)
theorem fold_writes : ∀ (ia : List (Bool × Int × List UInt8)) (S : List (List UInt8)) (W0 : List (Int × List UInt8)), (∀ x ∈ ia, x.1 = false) → ia.foldl stepS (S, W0) = (S, W0 ++ ia.map wr3)
  | [], S, W0, _ => by simp
  | x :: ia, S, W0, h => by
    have hx := h x (List.mem_cons_self ..)
    rw [List.foldl_cons, stepS, if_neg (by rw [hx]; decide)]
    rw [fold_writes ia S _ fun y hy => h y (List.mem_cons_of_mem _ hy)]
    simp [wr3]
theorem holds_agree {a : Abs} (ha : a.holds) {S' : List (List UInt8)} (hl : S'.length = a.S.length) (h64 : ∀ s ∈ S', s.length = 64) (h01 : ∀ p : Nat, p < 2 → S'[p]? = a.S[p]?) (hu : ∀ y ∈ a.used, S'[y.toNat]? = a.S[y.toNat]?) : (⟨S', a.u, a.O, a.X⟩ : Abs).holds := by
  obtain ⟨x, y, h1, h2, h3, h4, h5, h6, h7, h8, h9⟩ := ha.ubs
  have hk := ha.ok
  refine ⟨⟨by show 2 ≤ S'.length; rw [hl]; exact hk.n2, by show S'.length ≤ 8192; rw [hl]; exact hk.n8, h64, hk.ub, hk.cnt, hk.cu, hk.ris, hk.fit, by show ∀ y ∈ a.used, 2 ≤ y ∧ y < (S'.length : Int); rw [hl]; exact hk.lo, hk.nd, hk.wE0, hk.xl, hk.xn⟩, ⟨x, y, h1, h2, h3, h4, h5, h6, (h01 0 (by decide)).trans h7, (h01 1 (by decide)).trans h8, h9⟩, ha.first, fun k h => ?_, fun o ho k h => ?_⟩
  · exact (hu _ (List.mem_append_left _ (List.getElem_mem h))).trans (ha.chain k h)
  · exact (hu _ (List.mem_append_right _ (List.mem_flatMap.2 ⟨o, ho, List.getElem_mem h⟩))).trans (ha.objs o ho k h)
theorem rtE_zero {s : Sto} {l : List Ob} (h1 : rtE s l = 0) : l.length ≤ 256 ∧ risB l = true ∧ l.any longD = false ∧ wE (idxS (plcS l)) = 0 ∧ (wB (idxS (plcS l))).length ≤ 65536 ∧ s.ub.txg < 1099511627776 := by
  unfold rtE at h1
  split at h1
  · cases h1
  · rename_i q1
    split at h1
    · cases h1
    · rename_i q2
      split at h1
      · cases h1
      · rename_i q3
        split at h1
        · cases h1
        · rename_i q4
          split at h1
          · cases h1
          · rename_i q5
            refine ⟨by omega, by simpa using q2, by simpa using q3, ?_, ?_, by omega⟩
            · rcases Classical.em (wE (idxS (plcS l)) = 0) with h | h
              · exact h
              · exact absurd (.inl h) q4
            · rcases Nat.lt_or_ge 65536 (wB (idxS (plcS l))).length with h | h
              · exact absurd (.inr h) q4
              · exact h
structure CmLaw (s nx : Sto) (l : List Ob) (acts : List Ac) (W : List (Int × List UInt8)) : Prop where
  free : ∀ x ∈ W, 2 ≤ x.1 ∧ x.1 < (s.abs.S.length : Int) ∧ x.1 ∉ s.abs.used
  w64 : ∀ x ∈ W, x.2.length = 64
  few : W.length ≤ 8190
  acts : acts.map acAbs = W.map (fun x => (false, x.1, x.2)) ++ [(true, 0, []), (false, nx.ub.txg % 2, ueB nx.ub), (true, 0, [])]
  secs : nx.abs.S = (setV (fun _ => true) W s.abs.S W.length).set (nx.ub.txg % 2).toNat (ueB nx.ub)
  holds : nx.abs.holds
  wait : nx.dev.waits.n = 0
  txg : nx.ub.txg = s.ub.txg + 1
  kd : nx.abs.O.map (fun o => (o.1, o.2.1)) = l.map fun x => (x.key, x.data.xs)
theorem commit_law {w w' : World} {s nx : Sto} {l : List Ob} {acts : List Ac} (hy : CmYes w s l nx acts w') {w1 : World} {lo hi : Nat} (hs : Sto.At w1 lo hi s) (ha : s.abs.holds) (hl : ∀ x ∈ l, x.data.n = x.data.xs.length) : ∃ W, CmLaw s nx l acts W := by
  obtain ⟨hk, hw0⟩ := (sck_abs hs).1 hy.chk
  obtain ⟨r1, r2, r3, r4, r5, r6⟩ := rtE_zero hy.right
  obtain ⟨st, ix, ia, hPl, hIx, hO, hX, hU, hA⟩ := hy.placed
  obtain ⟨tk, hI⟩ := plAll_inv hs hk r2 hl l.length (Nat.le_refl _) st (by rw [List.take_length]; exact hPl)
  rw [List.take_length] at hI
  have h6 := plAll_szz hs hy.chk hl l.length (Nat.le_refl _) st (by rw [List.take_length]; exact hPl)
  rw [List.take_length] at h6
  have h7 := wE_sizes (idxS_sizes _ _ h6)
  have hE : wE (idxS st.2.2) = 0 := h7.1.trans r4
  have hB2 := wB_two hE
  have hs2 : 2 ≤ (s.dev.secs.n : Int) := by have := hk.n2; have := secv_len hs; omega
  have hF : ∀ y ∈ freeL (s.dev.secs.n : Int) (usedL s), 2 ≤ y ∧ y < (s.abs.S.length : Int) ∧ y ∉ s.abs.used := fun y hy => by
    rw [used_abs, secv_len hs]; exact (mem_freeL hs2).1 hy
  have hFn := free_nodup (s.dev.secs.n : Int) (usedL s)
  rw [hI.free] at hF hFn
  have hol : st.2.2.length = l.length := by have := congrArg List.length hI.kd; simpa using this
  -- the index's sectors and writes
  have hix : ix.Sublist st.1 ∧ ia.map (fun x => x.2.1) = tk ++ ix ∧ (∀ x ∈ ia, x.1 = false) ∧ (∀ x ∈ ia, x.2.2.length = 64) ∧ (∀ x ∈ st.2.1, x ∈ ia) ∧ (∀ k (h : k < ix.length), (false, ix[k], pgB (partO (wB (idxS st.2.2)) k) (ix.getD (k + 1) 0)) ∈ ia) ∧ (l = [] → ix = []) ∧ (l ≠ [] → ix.length = cntP (wB (idxS st.2.2)).length) := by
    unfold plIdx at hIx
    split at hIx
    · rename_i e
      simp only [Option.some.injEq, Prod.mk.injEq] at hIx
      obtain ⟨e1, e2⟩ := hIx
      subst e1
      subst e2
      exact ⟨List.nil_sublist _, by rw [List.append_nil]; exact hI.pos, hI.fl, hI.len64, fun x hx => hx, fun k h => by simp at h, fun _ => rfl, fun h => absurd e h⟩
    · rename_i e
      split at hIx
      · rename_i hroom
        simp only [Option.some.injEq, Prod.mk.injEq] at hIx
        obtain ⟨e1, e2⟩ := hIx
        subst e1
        subst e2
        have hc : (st.1.take (cntP (wB (idxS st.2.2)).length)).length = cntP (wB (idxS st.2.2)).length := by rw [List.length_take]; omega
        have hzl : (st.1.take (cntP (wB (idxS st.2.2)).length)).length = (chB (wB (idxS st.2.2)) (st.1.take (cntP (wB (idxS st.2.2)).length))).length := by rw [chB_length, hc]
        refine ⟨List.take_sublist _ _, by rw [List.map_append, hI.pos, zip_pos hzl], fun x hx => ?_, fun x hx => ?_, fun x hx => List.mem_append_left _ hx, fun k h => List.mem_append_right _ ?_, fun h => absurd h e, fun _ => hc⟩
        · rcases List.mem_append.1 hx with hx | hx
          · exact hI.fl x hx
          · exact (zip_mem hx).1
        · rcases List.mem_append.1 hx with hx | hx
          · exact hI.len64 x hx
          · exact chB_len64 (zip_mem hx).2
        · have h3 : k < (List.zipWith (fun y p => ((false, y, p) : Bool × Int × List UInt8)) (st.1.take (cntP (wB (idxS st.2.2)).length)) (chB (wB (idxS st.2.2)) (st.1.take (cntP (wB (idxS st.2.2)).length)))).length := by rw [List.length_zipWith]; omega
          have h5 := List.getElem_mem h3
          rw [List.getElem_zipWith] at h5
          have h6 : (chB (wB (idxS st.2.2)) (st.1.take (cntP (wB (idxS st.2.2)).length)))[k]'(by omega) = pgB (partO (wB (idxS st.2.2)) k) ((st.1.take (cntP (wB (idxS st.2.2)).length)).getD (k + 1) 0) := by simp [chB]
          rw [h6] at h5
          exact h5
      · cases hIx
  obtain ⟨i1, i2, i3, i4, i5, i6, i7, i8⟩ := hix
  clear hIx
  have hixF : ∀ y ∈ ix, y ∈ tk ++ st.1 := fun y hy => List.mem_append_right _ (i1.subset hy)
  have hposF : ∀ x ∈ ia, x.2.1 ∈ tk ++ st.1 := fun x hx => by
    have h1 : x.2.1 ∈ tk ++ ix := i2 ▸ List.mem_map_of_mem (f := fun x : Bool × Int × List UInt8 => x.2.1) hx
    rcases List.mem_append.1 h1 with h1 | h1
    · exact List.mem_append_left _ h1
    · exact hixF _ h1
  have hposn : (tk ++ ix).Nodup := List.Nodup.sublist (List.Sublist.append (List.Sublist.refl _) i1) hFn
  obtain ⟨W, hW⟩ : ∃ W, W = ia.map wr3 := ⟨_, rfl⟩
  have hWl : W.length ≤ 8190 := by
    have h1 : W.length = (tk ++ ix).length := by rw [hW, List.length_map, ← i2, List.length_map]
    have h2 := nodup_len (a := 2) (b := (s.abs.S.length : Int)) (by have := hk.n2; omega) hposn (fun y hy => by
      have : y ∈ tk ++ st.1 := by
        rcases List.mem_append.1 hy with h | h
        · exact List.mem_append_left _ h
        · exact hixF y h
      have := hF y this
      exact ⟨this.1, this.2.1⟩)
    have := hk.n8
    omega
  have hWm : ∀ x ∈ W, ∃ z ∈ ia, x = wr3 z := fun x hx => by
    rw [hW] at hx
    obtain ⟨z, hz, e⟩ := List.mem_map.1 hx
    exact ⟨z, hz, e.symm⟩
  have hWf : ∀ x ∈ W, 2 ≤ x.1 ∧ x.1 < (s.abs.S.length : Int) ∧ x.1 ∉ s.abs.used := fun x hx => by
    obtain ⟨z, hz, rfl⟩ := hWm x hx
    exact hF _ (hposF z hz)
  have hW64 : ∀ x ∈ W, x.2.length = 64 := fun x hx => by
    obtain ⟨z, hz, rfl⟩ := hWm x hx
    exact i4 z hz
  have hWn : (W.map fun x => x.1.toNat).Nodup := by
    have e : (W.map fun x => x.1.toNat) = natL (tk ++ ix) := by
      rw [hW, ← i2, natL, List.map_map, List.map_map]; rfl
    rw [e]
    exact natL_nodup (fun y hy => by
      have : y ∈ tk ++ st.1 := by
        rcases List.mem_append.1 hy with h | h
        · exact List.mem_append_left _ h
        · exact hixF y h
      have := hF y this
      omega) hposn
  have hia : ia = W.map (fun x => (false, x.1, x.2)) := by
    rw [hW, List.map_map]
    conv => lhs; rw [← List.map_id ia]
    exact List.map_congr_left fun x hx => by
      obtain ⟨f, y, p⟩ := x
      have : f = false := i3 _ hx
      subst this
      rfl
  obtain ⟨S1, hS1⟩ : ∃ S1, S1 = setV (fun _ => true) W s.abs.S W.length := ⟨_, rfl⟩
  have hS1l : S1.length = s.abs.S.length := by rw [hS1, setV_len]
  have hS1a : ∀ x ∈ ia, S1[(x.2.1).toNat]? = some x.2.2 := fun x hx => by
    have h1 : wr3 x ∈ W := by rw [hW]; exact List.mem_map_of_mem hx
    obtain ⟨i, hi, e⟩ := List.getElem_of_mem h1
    have h2 := setV_at (ss := s.abs.S) hWn (fun x hx => by have := hWf x hx; omega) W.length (Nat.le_refl _) i hi hi
    rw [e] at h2
    rw [hS1]
    exact h2
  have hS1u : ∀ y ∈ s.abs.used, S1[y.toNat]? = s.abs.S[y.toNat]? := fun y hy => by
    rw [hS1]
    refine setV_ne _ (fun x hx e => ?_) _
    have h1 := hWf x hx
    have h2 := hk.lo y hy
    have h3 : x.1 = y := by omega
    exact h1.2.2 (h3 ▸ hy)
  have hS12 : ∀ p : Nat, p < 2 → S1[p]? = s.abs.S[p]? := fun p hp => by
    rw [hS1]
    refine setV_ne _ (fun x hx e => ?_) _
    have h1 := hWf x hx
    omega
  have hwv : s.dev.wv = [] := by
    have h1 : s.dev.waits.xs = [] := List.eq_nil_of_length_eq_zero (by rw [← hs.dev.waits.len]; exact hw0)
    rw [Dev.wv, h1]; rfl
  obtain ⟨x, y, hx, hy', hx0, hy0, hxp, hyp, hSx, hSy, hu⟩ := ha.ubs
  have hut : 1 ≤ s.ub.txg := (ubE_ok (show ubE s.ub = 0 from hk.ub)).1
  obtain ⟨sl, hsl⟩ : ∃ sl, sl = nx.ub.txg % 2 := ⟨_, rfl⟩
  have htx : nx.ub.txg = s.ub.txg + 1 := by rw [hU]; rfl
  have hs01 : sl = 0 ∨ sl = 1 := by omega
  have hsec := hy.secs
  rw [doV_abs, hA, cmActs, List.foldl_append, hwv, fold_writes ia _ _ i3, List.nil_append, ← hW] at hsec
  have hsec2 : nx.abs.S = S1.set sl.toNat (ueB nx.ub) ∧ nx.dev.wv = [] := by
    have h1 := congrArg Prod.fst hsec
    have h2 := congrArg Prod.snd hsec
    constructor
    · rw [hsl, hS1]
      exact h1
    · exact h2
  obtain ⟨hS2, hwn⟩ := hsec2
  have hnw : nx.dev.waits.n = 0 := by
    rw [hy.at_.dev.waits.len]
    have := congrArg List.length hwn
    simpa [Dev.wv] using this
  have hS2g : ∀ y : Int, 2 ≤ y → nx.abs.S[y.toNat]? = S1[y.toNat]? := fun y h => by
    rw [hS2, List.getElem?_set_ne (by omega)]
  have hS2l : nx.abs.S.length = s.abs.S.length := by rw [hS2, List.length_set, hS1l]
  have hOa : nx.abs.O = st.2.2 := hO
  have hXa : nx.abs.X = ix := hX
  have hUa : nx.abs.u = ⟨s.ub.txg + 1, ix.getD 0 0, (l.length : Int)⟩ := hU
  have hUo : ubE nx.abs.u = 0 ∧ nx.abs.u.wf := by
    rw [hUa]
    refine cmUb_ok (N := s.abs.S.length) hut r6 r1 hk.n8 ?_ (fun y hy => by have := hF y (hixF y hy); omega)
    rcases Classical.em (l = []) with h | h
    · exact .inl ⟨by rw [h]; rfl, i7 h⟩
    · refine .inr ⟨List.length_pos_iff.2 h, ?_⟩
      rw [i8 h]
      unfold cntP
      omega
  have hkO : ∀ o ∈ st.2.2, ∃ z ∈ l, z.key = o.1 ∧ z.data.xs = o.2.1 := fun o ho => by
    have h3 : (o.1, o.2.1) ∈ l.map fun x => (x.key, x.data.xs) := hI.kd ▸ List.mem_map_of_mem (f := fun o : ObS => (o.1, o.2.1)) ho
    obtain ⟨z, hz, e⟩ := List.mem_map.1 h3
    exact ⟨z, hz, congrArg Prod.fst e, congrArg Prod.snd e⟩
  have hloO : ∀ o ∈ st.2.2, ∀ y ∈ o.2.2, 2 ≤ y ∧ y < (s.abs.S.length : Int) := fun o ho y hy => by
    rcases hI.objs o ho with h | ⟨g, _, _⟩
    · exact hk.lo y (List.mem_append_right _ (List.mem_flatMap.2 ⟨o, h, hy⟩))
    · have := hF y (List.mem_append_left _ (g y hy)); omega
  have hOK : nx.abs.ok := by
    refine ⟨by rw [hS2l]; exact hk.n2, by rw [hS2l]; exact hk.n8, ?_, hUo.1, by rw [hOa, hol]; exact r1, by rw [hOa, hol, hUa], ?_, fun o ho => ?_, ?_, ?_, by rw [hOa]; exact hE, fun e => ?_, fun e => ?_⟩
    · intro b hb
      rw [hS2] at hb
      rcases List.mem_or_eq_of_mem_set hb with h | h
      · rw [hS1] at h
        exact setV_64 _ hk.s64 hW64 _ b h
      · rw [h]; exact ueB_len _
    · have e : nx.abs.O.map (fun o => o.1) = l.map Ob.key := by
        have := congrArg (List.map Prod.fst) hI.kd
        rw [List.map_map, List.map_map] at this
        rw [hOa]
        exact this
      rw [e, ← risB_keys]
      exact r2
    · rw [hOa] at ho
      rcases hI.objs o ho with h | ⟨_, g, _⟩
      · exact hk.fit o h
      · refine ⟨?_, g⟩
        obtain ⟨z, hz, _, e⟩ := hkO o ho
        rw [← e, ← hl z hz]
        rw [List.any_eq_false] at r3
        have := r3 z hz
        unfold longD at this
        simpa using this
    · intro v hv
      rw [hS2l]
      rw [Abs.used, hOa, hXa] at hv
      rcases List.mem_append.1 hv with h | h
      · have := hF v (hixF v h); omega
      · obtain ⟨o, ho, hv⟩ := List.mem_flatMap.1 h
        exact hloO o ho v hv
    · rw [Abs.used, hOa, hXa, List.nodup_append]
      refine ⟨(List.nodup_append.1 hposn).2.1, hI.nd, fun v hv z hz e => ?_⟩
      subst e
      obtain ⟨o, ho, hz⟩ := List.mem_flatMap.1 hz
      rcases hI.objs o ho with h | ⟨g, _, _⟩
      · exact (hF v (hixF v hv)).2.2 (List.mem_append_right _ (List.mem_flatMap.2 ⟨o, h, hz⟩))
      · exact (List.nodup_append.1 hposn).2.2 v (g v hz) v hv rfl
    · rw [hOa] at e
      rw [hXa]
      exact i7 (List.eq_nil_of_length_eq_zero (by rw [← hol, e]; rfl))
    · rw [hOa] at e ⊢
      rw [hXa]
      exact i8 fun h => e (List.eq_nil_of_length_eq_zero (by rw [hol, h]; rfl))
  refine ⟨W, hWf, hW64, hWl, by rw [hA, cmActs, hia], by rw [hS2, hS1, hsl], ⟨hOK, ?_, ?_, fun k h => ?_, fun o ho k h => ?_⟩, hnw, htx, by rw [hOa]; exact hI.kd⟩
  · have hn2 := hk.n2
    have hu' : s.ub = if x.txg < y.txg then y else x := hu
    by_cases hlt : x.txg < y.txg
    · rw [if_pos hlt] at hu'
      have e0 : sl = 0 := by rw [hsl, htx, hu']; omega
      refine ⟨nx.ub, y, hUo.2, hy', hUo.1, hy0, by rw [← hsl]; exact e0, hyp, ?_, ?_, ?_⟩
      · rw [hS2, e0]
        exact List.getElem?_set_self (by rw [hS1l]; omega)
      · rw [hS2, e0, List.getElem?_set_ne (by decide), hS12 1 (by decide)]
        exact hSy
      · rw [if_neg (by rw [htx, hu']; omega)]; rfl
    · rw [if_neg hlt] at hu'
      have e0 : sl = 1 := by rw [hsl, htx, hu']; omega
      refine ⟨x, nx.ub, hx, hUo.2, hx0, hUo.1, hxp, by rw [← hsl]; exact e0, ?_, ?_, ?_⟩
      · rw [hS2, e0, List.getElem?_set_ne (by decide), hS12 0 (by decide)]
        exact hSx
      · rw [hS2, e0]
        exact List.getElem?_set_self (by rw [hS1l]; omega)
      · rw [if_pos (by rw [htx, hu']; omega)]; rfl
  · rw [hUa, hXa]
  · have hk2 : k < ix.length := by rw [hXa] at h; exact h
    have e1 : nx.abs.X[k] = ix[k] := by simp only [hXa]
    have hm := i6 k hk2
    have h1 := hF _ (hixF _ (List.getElem_mem hk2))
    rw [e1, hS2g _ h1.1, hOa, hXa]
    exact hS1a _ hm
  · rw [hOa] at ho
    have h1 := hloO o ho _ (List.getElem_mem h)
    rw [hS2g _ h1.1]
    rcases hI.objs o ho with hO1 | ⟨_, _, g⟩
    · rw [hS1u _ (List.mem_append_right _ (List.mem_flatMap.2 ⟨o, hO1, List.getElem_mem h⟩))]
      exact ha.objs o hO1 k h
    · exact hS1a _ (i5 _ (g k h))
end Go.Proofs.YtfongpdeflfioaaGreat
/- store.Get; godownlaw10.num, first, alive. -/
namespace Go.Proofs.YtfongpdeflfioaaGreat
open Go.RowKit Go.Maps Go.Sort Go.Shelf
set_option linter.unusedVariables false
set_option linter.unusedSimpArgs false
def keyB (key : ByteArray) (o : Ob) : Bool := decide (o.key = key)
def getO (xs : List Ob) (key : ByteArray) : Option Ob := xs.find? (keyB key)
def getB (xs : List Ob) (key : ByteArray) : List UInt8 := ((getO xs key).map fun o => o.data.xs).getD []
def GtOut (w : World) (xs : List Ob) (key : ByteArray) (e : Ending) (w' : World) : Prop :=
  ∃ A c, e = .returned (.tuple #[.slice A (getB xs key).length c, .bool (getO xs key).isSome]) ∧ w'.ownsRow w.heap.size 5 1 (.slice A (getB xs key).length c) (getB xs key).length (bytes (getB xs key)) ∧ Ext w w'
set_option maxRecDepth 100000 in
set_option maxHeartbeats 8000000 in
theorem get_any (w : World) (s : Sto) (xk : ByteArray) (h : Sto.At w 0 w.heap.size s) (hl : ∀ o ∈ s.objs.xs, o.data.n ≤ 10000000) : Calls Tryz.prog 27 #[.agg s.cells.toArray, .string xk] w (GtOut w s.objs.xs xk) := by
  have HR := Lib.hid h.objs.rd
  have HA := Lib.hid h.objs.all
  have Hn := Lib.hid h.objs.len
  have HLn := Lib.hid hl
  have hm : s.objs.n ≤ 9223372036854775807 := Nat.le_trans h.objs.le h.objs.cap
  have HV := Lib.hid (show getO s.objs.xs xk = s.objs.xs.find? (keyB xk) from rfl)
  have HL := Lib.hid (show getB s.objs.xs xk = ((getO s.objs.xs xk).map fun o => o.data.xs).getD [] from rfl)
  unfold GtOut
  generalize getB s.objs.xs xk = KL at *
  generalize getO s.objs.xs xk = KO at *
  clear h hl
  obtain ⟨⟨⟨sA, sn, sc, sx⟩, ⟨wA, wn, wc, wx⟩⟩, ⟨ut, uf, uo⟩, ⟨oA, on, oc, ox⟩, ⟨iA, im, ic, ix⟩⟩ := s
  simp only [Sto.cells, Sl.val] at *
  go_enter Tryz.func27, Tryz.ntmps27
  go_upto_region 1 with fail
  generalize hwH : World.alloc w _ = w1; have HH := Lib.hid (Heap.one hwH); clear hwH
  go_wp2_with (refine shl_load1 HH.out rfl rfl rfl 0 rfl rfl (by decide +kernel) ?_)
  go_loopw [11] (fun v wr => ∃ k : Nat, k ≤ on ∧ v = .int .i64 (k : Int) ∧ Hid (∀ o ∈ ox.take k, keyB xk o = false) ∧ Hid (Heap w [.box w.heap.size [.slice sA sn sc, .slice wA wn wc, .int .i64 ut, .int .i64 uf, .int .i64 uo, .slice oA on oc, .slice iA im ic]] wr)) (fun v _ => on - (intOf v).toNat)
  case atStart => exact ⟨0, Nat.zero_le _, rfl, Lib.hid (by simp), HH⟩
  case round =>
    clear HH
    obtain ⟨k, hk, rfl, HK, HH⟩ := hrel
    by_cases hlt : k < on
    · have l1 : k < ox.length := by rw [← Hn.out]; exact hlt
      obtain ⟨b1, o1, rfl, hb1, f0, f1, f2⟩ := rd_ob (HR.out.ext HH.out.ext (Nat.le_refl _)) l1
      have HOA := Lib.hid (HA.out _ (List.getElem_mem l1))
      have HOl := Lib.hid (HLn.out _ (List.getElem_mem l1))
      have HS := Lib.hid (fun hp => find_take (p := keyB xk) HK.out l1 hp)
      have HT := Lib.hid (List.take_succ_eq_append_getElem l1)
      generalize ox[k] = o at *
      obtain ⟨ok, ⟨dA, dn, dc, dx⟩, ⟨lA, ln, lc, lx⟩⟩ := o
      simp only [Sl.val] at f1 f2
      dsimp only at f0
      have HSB := Lib.hid (show keyB xk ⟨ok, ⟨dA, dn, dc, dx⟩, ⟨lA, ln, lc, lx⟩⟩ = decide (ok = xk) from rfl)
      go_upto_region 4 with (first | (refine shl_store (HH.out.alloc _ _) sizeOb rfl rfl rfl rfl 0 rfl rfl rfl rfl ?_; clear HH; intro wS HHS; have HH := Lib.hid HHS; clear HHS))
      have hte := toList_eq (a := ok) (b := xk)
      by_cases hkey : ok = xk
      · rw [decide_eq_true hkey] at hte HSB
        have hKO := HV.out.trans (HS.out HSB.out)
        clear HV HS
        subst hKO
        have hKL : KL = dx := HL.out
        clear HL
        subst hKL
        have hll : dn = KL.length := HOA.out.data.len
        subst hll
        go_wp2_with (first | (refine shl_load1 HH.out rfl rfl rfl 0 rfl rfl (by decide +kernel) ?_))
        refine (cloneb_any wS wS.heap.size (Nat.le_refl _) dA KL.length dc KL rfl (Rd.at HOA.out.data.rdb HH.out.ext (Nat.le_refl _)) (by have := HOl.out; (try dsimp only at this); omega)).mono ?_
        rintro e w6 ⟨v6, rfl, hown, e6⟩
        have HO := Lib.hid (own_lower hown HH.out.ext.size)
        have HX6 := Lib.hid (HH.out.ext.trans e6)
        obtain ⟨A6, c6, rfl, _, _, _⟩ := own_form HO.out
        clear hown e6 HH
        go_wp2_with fail
        go_ret2
        exact ⟨A6, c6, rfl, HO.out, HX6.out⟩
      · rw [decide_eq_false hkey] at hte HSB
        go_wp2_with (first | (refine shl_load1 HH.out rfl rfl rfl 0 rfl rfl (by decide +kernel) ?_))
        go_roundw
        case rel =>
          refine ⟨k + 1, by omega, by go_num, Lib.hid (fun z hz => ?_), Lib.hid HH.out.tail⟩
          rw [HT.out] at hz
          rcases List.mem_append.1 hz with hz | hz
          · exact HK.out z hz
          · simp only [List.mem_singleton] at hz
            subst hz
            exact HSB.out
        case measure => simp [intOf]; omega
    · obtain rfl : k = on := by omega
      have hKO : KO = none := HV.out.trans (List.find?_eq_none.2 fun o ho => by
        rw [List.take_of_length_le (by rw [← Hn.out]; exact Nat.le_refl _)] at HK
        rw [HK.out o ho]; simp)
      clear HV
      subst hKO
      have hKL : KL = [] := HL.out
      clear HL
      subst hKL
      go_wp2_with fail
      go_ret2
      exact ⟨none, 0, rfl, World.ownsRow_nil _ _ _ _, HH.out.ext⟩
theorem num10_any (w : World) (e : Int) : Calls Tryz.prog 21 #[.int .i64 e] w fun r w' => r = .returned (.int .i64 e) ∧ w' = w := by
  go_enter Tryz.func21, Tryz.ntmps21
  go_wp2_with fail
  go_ret
  exact ⟨rfl, rfl⟩
end Go.Proofs.YtfongpdeflfioaaGreat
/- godownlaw10.first and alive. -/
namespace Go.Proofs.YtfongpdeflfioaaGreat
open Go.RowKit Go.Maps Go.Sort Go.Shelf
set_option linter.unusedVariables false
set_option linter.unusedSimpArgs false
def fmtA (n : Nat) : Abs := ⟨fmtV n, ⟨2, 0, 0⟩, [], []⟩
theorem fmtA_ok {n : Nat} (h0 : 2 ≤ n) (h8 : n ≤ 8192) : (fmtA n).ok := by
  have hl : (fmtV n).length = n := by simp [fmtV]
  refine ⟨by show 2 ≤ (fmtV n).length; omega, by show (fmtV n).length ≤ 8192; omega, fun s hs => ?_, by show ubE ⟨2, 0, 0⟩ = 0; decide, Nat.zero_le _, rfl, by show risK [] = true; decide, (fun o ho => by cases ho), (fun y hy => by cases hy), List.nodup_nil, by show wE (idxS []) = 0; decide, fun _ => rfl, fun h => absurd rfl h⟩
  have hs2 : s ∈ fmtV n := hs
  rw [fmtV] at hs2
  rcases List.mem_or_eq_of_mem_set hs2 with h | h
  · rcases List.mem_or_eq_of_mem_set h with h | h
    · rw [(List.mem_replicate.1 h).2]; rfl
    · rw [h]; exact ueB_len _
  · rw [h]; exact ueB_len _
theorem fmt_holds {s : Sto} {n : Nat} {w : World} {lo hi : Nat} (h0 : 2 ≤ n) (h8 : n ≤ 8192) (ha : s.abs = fmtA n) (hk : s.abs.ok) : s.abs.holds := by
  have hl : (fmtV n).length = n := by simp [fmtV]
  refine ⟨hk, ⟨⟨2, 0, 0⟩, ⟨1, 0, 0⟩, by constructor <;> decide, by constructor <;> decide, by decide, by decide, by decide, by decide, ?_, ?_, ?_⟩, ?_, ?_, ?_⟩
  · rw [ha]
    show (fmtV n)[0]? = _
    rw [fmtV]
    exact List.getElem?_set_self (by simp; omega)
  · rw [ha]
    show (fmtV n)[1]? = _
    rw [fmtV, List.getElem?_set_ne (by decide)]
    exact List.getElem?_set_self (by simp; omega)
  · rw [ha]; rfl
  · rw [ha]; rfl
  · rw [ha]; intro k h; exact absurd h (Nat.not_lt_zero k)
  · rw [ha]; intro o ho; cases ho
set_option maxRecDepth 100000 in
set_option maxHeartbeats 4000000 in
theorem first_yes (w : World) (n : Nat) (h0 : 2 ≤ n) (h1 : n ≤ 8192) : Calls Tryz.prog 17 #[.int .i64 (n : Int)] w fun e w' => ∃ s : Sto, e = .returned (.tuple #[.agg s.cells.toArray, .bool true]) ∧ s.abs = fmtA n ∧ s.abs.holds ∧ s.dev.waits.n = 0 ∧ Sto.At w' w.heap.size w'.heap.size s ∧ Ext w w' := by
  have H0 := Lib.hid h0
  go_enter Tryz.func17, Tryz.ntmps17
  go_upto_region 1 with fail
  generalize hwH : World.alloc w _ = w1; have HH := Lib.hid (Heap.one hwH); clear hwH
  go_wp2_with fail
  refine (fmt_yes w1 n h0 h1).mono ?_
  rintro e w2 ⟨s, A, rfl, g1, g2, g3, g4, g5, g6, g7, hS, e2⟩
  have HA := Lib.hid (show s.abs = fmtA n by rw [Sto.abs, g1, g5, g6, g7]; rfl)
  have HW := Lib.hid g2
  have HK := Lib.hid (show s.abs.ok by rw [HA.out]; exact fmtA_ok h0 h1)
  have HHo := Lib.hid (fmt_holds (w := w2) (lo := 0) (hi := 0) h0 h1 HA.out HK.out)
  have HH2 := Lib.hid (HH.out.addLook e2 (J := fun W => Sto.At W w1.heap.size w2.heap.size s) (fun _ _ hr hh => hh.imp hr) (Nat.le_refl _) (Nat.le_refl _) hS)
  have HLe := Lib.hid (show w.heap.size ≤ w1.heap.size from HH.out.ext.size)
  clear HH g1 g2 g3 g4 g5 g6 g7 hS e2 h0
  have HH := HH2
  clear HH2
  have HFin := Lib.hid (fun (W : World) (its : List It) (i : Nat) (hW : Heap w its W) (hi : its[i]? = some (It.look (fun W => Sto.At W w1.heap.size w2.heap.size s) w1.heap.size w2.heap.size (fun _ _ hr hh => hh.imp hr))) => show ∃ s' : Sto, Ending.returned (.tuple #[.agg s.cells.toArray, .bool true]) = .returned (.tuple #[.agg s'.cells.toArray, .bool true]) ∧ s'.abs = fmtA n ∧ s'.abs.holds ∧ s'.dev.waits.n = 0 ∧ Sto.At W w.heap.size W.heap.size s' ∧ Ext w W from
    ⟨s, rfl, HA.out, HHo.out, HW.out, (hW.lookAt i hi).2.imp fun _ _ hr => hr.more HLe.out (hW.lookAt i hi).1, hW.ext⟩)
  clear HA HW HK HHo
  obtain ⟨⟨⟨sA, sn, sc, sx⟩, ⟨qA, qn, qc, qx⟩⟩, ⟨ut, uf, uo⟩, ⟨oA, on, oc, ox⟩, ⟨iA, im, ic, ix⟩⟩ := s
  simp only [Sto.cells, Sl.val] at *
  go_upto_region 2 with (refine shl_store (HH.out.alloc _ _) sizeSto rfl rfl rfl rfl 0 rfl rfl rfl rfl ?_; clear HH; intro wS HHS; have HH := Lib.hid HHS; clear HHS)
  have HHd := Lib.hid HH.out.drew
  clear HH
  refine wp_region_held_drew (S := Heap w [_]) (by kernel_rfl) (HHd.out.only 0 rfl) (fun hHeld => ?_)
  generalize World.drew _ = wd at *
  refine tG 0 rfl (fun wT hST => sh_run_load hST sizeSto (by kernel_rfl) rfl rfl 0 rfl (Nat.le_of_ble_eq_true rfl)) hHeld ?_; (try simp only [Act.put, lyA, lyB, lyC])
  refine tS 1 ?_; (try simp only [Act.put, lyA, lyB, lyC])
  clear hHeld
  refine oS 2 (fun K hK => ?_)
  go_simp
  refine (num10_any wd 0).mono ?_
  rintro e w5 ⟨rfl, rfl⟩
  go_wp2_with fail
  refine hK.out _ _ ((HHd).out.only 0 rfl) (fun hHeld => ?_); clear hK K; (try simp only [Act.put, lyA, lyB, lyC])
  refine tS 3 ?_; (try simp only [Act.put, lyA, lyB, lyC])
  refine tS 4 ?_; (try simp only [Act.put, lyA, lyB, lyC])
  refine tS 5 ?_; (try simp only [Act.put, lyA, lyB, lyC])
  refine tS 6 ?_; (try simp only [Act.put, lyA, lyB, lyC])
  refine tS 7 ?_; (try simp only [Act.put, lyA, lyB, lyC])
  refine tS 8 ?_; (try simp only [Act.put, lyA, lyB, lyC])
  clear hHeld
  refine oS 9 (fun K hK => ?_)
  refine sh_store HHd.out sizeSto rfl rfl rfl 2 rfl rfl (Nat.le_of_ble_eq_true rfl) rfl ?_
  intro w6 hh6
  have HH6 := Lib.hid hh6
  clear hh6 HHd
  refine hK.out _ _ ((HH6).out.only 0 rfl) (fun hHeld => ?_); clear hK K; (try simp only [Act.put, lyA, lyB, lyC])
  refine tS 10 ?_; (try simp only [Act.put, lyA, lyB, lyC])
  refine wpAnyH_done (by kernel_rfl) ?_ _
  clear hHeld
  go_wp2_with fail
  refine ret_cell2 sizeSto (by kernel_rfl) HH6.out rfl rfl rfl 2 rfl rfl rfl ?_
  exact HFin.out _ _ 1 HH6.out rfl
def CaOut (w : World) (s : Sto) (l : List Ob) (e : Ending) (w' : World) : Prop :=
  (∃ E : Int, E ≠ 0 ∧ (rtE s l ≠ 0 ∧ E = rtE s l ∨ rtE s l = 0 ∧ E = 17 ∧ noRoom s l) ∧ e = .returned (.tuple #[.agg zSto.toArray, .slice none 0 0, .int .i64 E]) ∧ Ext w w') ∨
  (∃ nx acts A c W, e = .returned (.tuple #[.agg nx.cells.toArray, .slice A acts.length c, .int .i64 0]) ∧ acts.length ≤ c ∧ c ≤ maxLen ∧ Acs w' A acts.length c acts ∧ rtE s l = 0 ∧ CmLaw s nx l acts W ∧ Sto.At w' w.heap.size w'.heap.size nx ∧ Ext w w')
theorem commit_abs (w : World) (s : Sto) (l : Sl Ob) (h : Sto.At w 0 w.heap.size s) (ha : s.abs.holds) (hw : s.dev.waits.n = 0) (hl : Sl.At w 0 w.heap.size Ob.cells (Ob.At w 0 w.heap.size) l) : Calls Tryz.prog 20 #[.agg s.cells.toArray, l.val] w (CaOut w s l.xs) := by
  refine (commit_any w s l h (small_abs h ha.ok) hl).mono ?_
  rintro e w' (⟨E, hE, rfl, ee⟩ | ⟨nx, acts, A, c, rfl, h1, h2, h3, hy⟩)
  · have h0 := (sck_abs h).2 ⟨ha.ok, hw⟩
    refine .inl ⟨E, ?_, ?_, rfl, ee⟩
    · rcases hE with ⟨h, rfl⟩ | ⟨_, h, rfl⟩ | ⟨_, _, rfl, _⟩
      · decide
      · exact h
      · decide
    · rcases hE with ⟨h, rfl⟩ | ⟨_, h, rfl⟩ | ⟨_, h, rfl, h4⟩
      · exact absurd h0 h
      · exact .inl ⟨h, rfl⟩
      · exact .inr ⟨h, rfl, h4⟩
  · obtain ⟨W, hW⟩ := commit_law hy h ha (fun x hx => (hl.all x hx).data.len)
    exact .inr ⟨nx, acts, A, c, W, rfl, h1, h2, h3, hy.right, hW, hy.at_, hy.ext⟩
theorem rtE_ok {s : Sto} {l : List Ob} (h1 : l.length ≤ 256) (h2 : risB l = true) (h3 : ∀ x ∈ l, x.data.n ≤ 65536) (h4 : ((idxS (plcS l)).map fun t => 3 + t.size).sum ≤ 65000) (h6 : s.ub.txg < 1099511627776) : rtE s l = 0 := by
  have e3 : l.any longD = false := by
    rw [List.any_eq_false]
    intro x hx
    have := h3 x hx
    unfold longD
    simp
    omega
  have hm : ∀ (t : List ByteArray) (y : ByteArray), y ∈ t → y.size ≤ (t.map fun t => 3 + t.size).sum := fun t y hy => by
    induction t with
    | nil => cases hy
    | cons z t ih =>
      rw [List.map_cons, List.sum_cons]
      rcases List.mem_cons.1 hy with rfl | hy
      · omega
      · have := ih hy; omega
  have hE : wE (idxS (plcS l)) = 0 := (wE_zero _).2 ⟨by rw [idxS_len, plcS, List.length_map]; omega, fun y hy => by have := hm _ y hy; omega⟩
  have hB : (wB (idxS (plcS l))).length ≤ 65536 := by
    unfold wB
    rw [if_pos hE, flat_len]
    omega
  unfold rtE
  rw [if_neg (by omega), if_neg (by rw [h2]; decide), if_neg (by rw [e3]; decide), if_neg (by rintro (h | h) <;> omega), if_neg (by omega)]
def exO (A B : Option Addr) (c d : Nat) : Ob := ⟨⟨#[97]⟩, ⟨A, 1, c, [98]⟩, ⟨B, 0, d, []⟩⟩
theorem ex_right {s : Sto} (h : s.ub.txg = 2) (A B : Option Addr) (c d : Nat) : rtE s [exO A B c d] = 0 :=
  rtE_ok (by simp) (by rw [risB_keys]; show risK [⟨#[97]⟩] = true; decide) (fun x hx => by simp only [List.mem_singleton] at hx; subst hx; show 1 ≤ 65536; decide) (by
    have e : idxS (plcS [exO A B c d]) = [⟨#[97]⟩, num8 1, ⟨(numsO (List.replicate (cntP 1) 0)).toArray⟩] := by simp [idxS, plcS, exO]
    rw [e]
    have h8 : (num8 1).size = 8 := by show (puts 1 8).toArray.size = 8; simp [puts_length]
    have hl : (⟨(numsO (List.replicate (cntP 1) 0)).toArray⟩ : ByteArray).size = 8 := by
      show ((numsO (List.replicate (cntP 1) 0)).toArray).size = 8
      rw [List.size_toArray, numsO_len, List.length_replicate]
      decide
    simp only [List.map_cons, List.map_nil, List.sum_cons, List.sum_nil, h8, hl]
    decide) (by omega)
theorem ex_room {s : Sto} {w : World} {lo hi : Nat} (hs : Sto.At w lo hi s) (h : s.abs = fmtA 20) (A B : Option Addr) (c d : Nat) : ¬ noRoom s [exO A B c d] := by
  have hO : s.objs.xs = [] := by
    have h1 : s.objs.xs.map strip = [] := congrArg Abs.O h
    exact List.map_eq_nil_iff.1 h1
  have hX : s.idx.xs = [] := congrArg Abs.X h
  have hU : usedL s = [] := by rw [usedL, hO, hX]; rfl
  have hn : s.dev.secs.n = 20 := by
    rw [← secv_len hs, h]
    show (fmtV 20).length = 20
    simp [fmtV]
  have hF : freeL (s.dev.secs.n : Int) (usedL s) = upI 18 := by rw [hU, hn]; rfl
  have hP : plAll s [exO A B c d] = plStep s (upI 18, [], []) (exO A B c d) := by
    rw [plAll, hF]; rfl
  have hS := plStep_put (s := s) (st := (upI 18, [], [])) (x := exO A B c d) (by rw [hO]; rfl) (by rw [upI_len]; show cntP 1 ≤ 18; decide)
  rw [← hP] at hS
  intro hr
  have h1 := hr _ hS
  unfold plIdx at h1
  rw [if_neg (by simp)] at h1
  have hE : (wB (idxS [((exO A B c d).key, (exO A B c d).data.xs, (upI 18).take (cntP (exO A B c d).data.n))])).length ≤ 52 := by
    have e : idxS [((exO A B c d).key, (exO A B c d).data.xs, (upI 18).take (cntP (exO A B c d).data.n))] = [⟨#[97]⟩, num8 1, ⟨(numsO ((upI 18).take 1)).toArray⟩] := by
      have h9 : cntP (exO A B c d).data.n = 1 := by show cntP 1 = 1; decide
      rw [h9]
      simp [idxS, exO]
    have hl : ((numsO ((upI 18).take 1)).toArray).size = 8 := by
      rw [List.size_toArray, numsO_len, List.length_take, upI_len]; decide
    have h8 : (num8 1).size = 8 := by show (puts 1 8).toArray.size = 8; simp [puts_length]
    rw [e]
    unfold wB
    split
    · rw [flat_len]
      simp only [List.map_cons, List.map_nil, List.sum_cons, List.sum_nil, h8]
      rw [show (⟨(numsO ((upI 18).take 1)).toArray⟩ : ByteArray).size = 8 from hl]
      decide
    · decide
  rw [if_pos] at h1
  · cases h1
  · show cntP (wB (idxS [((exO A B c d).key, (exO A B c d).data.xs, (upI 18).take (cntP (exO A B c d).data.n))])).length ≤ ((upI 18).drop (cntP (exO A B c d).data.n)).length
    have h9 : cntP (exO A B c d).data.n = 1 := by show cntP 1 = 1; decide
    rw [List.length_drop, upI_len]
    rw [h9] at hE ⊢
    unfold cntP
    omega
end Go.Proofs.YtfongpdeflfioaaGreat
/- godownlaw10.alive: the page's example. -/
namespace Go.Proofs.YtfongpdeflfioaaGreat
open Go.RowKit Go.Maps Go.Sort Go.Shelf
set_option linter.unusedVariables false
set_option linter.unusedSimpArgs false
theorem one_of {xs : List Ob} {key : ByteArray} {d : List UInt8} (h : (xs.map strip).map (fun o => (o.1, o.2.1)) = [(key, d)]) : getB xs key = d ∧ (getO xs key).isSome = true := by
  cases xs with
  | nil => cases h
  | cons o xs =>
    simp only [List.map_cons, List.cons.injEq, strip, Prod.mk.injEq] at h
    have e : getO (o :: xs) key = some o := by
      rw [getO, List.find?_cons]
      simp [keyB, h.1.1]
    rw [getB, e]
    exact ⟨h.1.2, rfl⟩
set_option maxRecDepth 100000 in
set_option maxHeartbeats 8000000 in
theorem alive10_any (w : World) : Calls Tryz.prog 16 #[] w fun e w' => e = .returned (.bool true) ∧ Ext w w' := by
  go_enter Tryz.func16, Tryz.ntmps16
  go_wp2_with fail
  refine (first_yes w 20 (by decide) (by decide)).mono ?_
  rintro e w1 ⟨s, rfl, habs, hho, hw0, hS, e1⟩
  have HE1 := Lib.hid e1
  have HCm := Lib.hid (fun (W : World) (hW : Ext w1 W) (l : Sl Ob) (hl : Sl.At W 0 W.heap.size Ob.cells (Ob.At W 0 W.heap.size) l) => commit_abs W s l ((hS.on hW (Nat.le_refl _)).imp fun _ _ hr => hr.m0) hho hw0 hl)
  have HNo := Lib.hid (fun (A B : Option Addr) (c d : Nat) => show rtE s [exO A B c d] = 0 ∧ ¬ noRoom s [exO A B c d] from
    ⟨ex_right (by have := congrArg Abs.u habs; show s.ub.txg = 2; rw [show s.ub = _ from this]; rfl) A B c d, ex_room hS habs A B c d⟩)
  clear habs hho hw0 hS e1
  have HH := Lib.hid (Heap.start w1)
  have HCs := Lib.hid (show s.cells = s.cells from rfl)
  obtain ⟨⟨⟨sA, sn, sc, sx⟩, ⟨qA, qn, qc, qx⟩⟩, ⟨ut, uf, uo⟩, ⟨oA, on, oc, ox⟩, ⟨iA, im, ic, ix⟩⟩ := s
  simp only [Sto.cells, Sl.val] at *
  go_upto_region 2 with (refine shl_store (HH.out.alloc _ _) sizeSto rfl rfl rfl rfl 0 rfl rfl rfl rfl ?_; clear HH; intro wS HHS; have HH := Lib.hid HHS; clear HHS)
  obtain ⟨tb, htb⟩ : ∃ b, b = w1.heap.size := ⟨_, rfl⟩
  rw [← htb] at HH ⊢
  clear htb
  have HR := HH.out.allocRow (w' := wS.alloc (.cells #[.int .u8 98] 5)) rfl (n := 1) (size := 1) rfl (by decide)
  obtain ⟨wM, hcv, HM⟩ := mark_heap Tryz.underlying33 Tryz.underlying5 HR 0 rfl
  clear HR
  go_wp2_with (refine shl_load HH.out sizeSto (by kernel_rfl) rfl rfl rfl 0 rfl rfl ?_)
  generalize hwA : World.alloc wM _ = w5
  have HH5 := Lib.hid (HM.allocE hwA)
  clear HM hcv hwA HH
  have HH := HH5
  clear HH5
  refine (HCm.out w5 HH.out.ext ⟨some ⟨wM.heap.size, 0, none⟩, 1, 1, [exO (some ⟨wS.heap.size, 0, none⟩) none 1 0]⟩ ⟨rfl, Nat.le_refl _, by simp only [maxLen]; omega, (HH.out.boxRd 0 rfl).m0, fun x hx => by
    simp only [List.mem_singleton] at hx
    subst hx
    exact ⟨by simp only [maxLen]; show 1 ≤ _; omega, ⟨rfl, Nat.le_refl _, by simp only [maxLen]; show 1 ≤ _; omega, by rw [octs_flat]; exact (HH.out.rdAt 1 rfl).m0, fun _ _ => trivial⟩, ⟨rfl, Nat.le_refl _, Nat.zero_le _, Rd.nil, fun _ hh => by cases hh⟩⟩⟩).mono ?_
  rintro e w6 (⟨E, hE, hh, rfl, ee⟩ | ⟨nx, acts, A, c, W, rfl, _, _, _, _, hlaw, hnx, e6⟩)
  · exfalso
    obtain ⟨h1, h2⟩ := HNo.out (some ⟨wS.heap.size, 0, none⟩) none 1 0
    rcases hh with ⟨h, _⟩ | ⟨_, _, h⟩
    · exact h h1
    · exact h2 h
  have HH6 := Lib.hid (HH.out.addLook e6 (J := fun W => Sto.At W w5.heap.size w6.heap.size nx) (fun _ _ hr hh => hh.imp hr) (Nat.le_refl _) (Nat.le_refl _) hnx)
  have HOp := Lib.hid (fun (W : World) (hW : Sto.At W 0 W.heap.size nx) => open_ok W nx.dev hW.dev hlaw.wait nx.abs rfl hlaw.holds)
  have HKd := Lib.hid (show nx.abs.O.map (fun o => (o.1, o.2.1)) = [((⟨#[97]⟩ : ByteArray), ([98] : List UInt8))] from hlaw.kd)
  have HFt := Lib.hid (show ∀ o ∈ nx.abs.O, o.2.1.length ≤ 65536 from fun o ho => (hlaw.holds.ok.fit o ho).1)
  clear HH HCm HNo hlaw hnx e6 HCs
  have HH := HH6
  clear HH6
  generalize nx.abs = a at *
  obtain ⟨⟨⟨eA, en, ec, ex⟩, ⟨gA, gn, gc, gx⟩⟩, ⟨vt, vf, vo⟩, ⟨pA, pn, pc, px⟩, ⟨jA, jm, jc, jx⟩⟩ := nx
  simp only [Sto.cells, Dev.cells, Sl.val] at *
  go_upto_region 3 with (refine shl_store HH.out sizeSto rfl rfl rfl rfl 3 rfl rfl rfl rfl ?_; clear HH; intro wS HHS; have HH := Lib.hid HHS; clear HHS)
  go_wp2_with (refine shl_load HH.out sizeDev (by kernel_rfl) rfl rfl rfl 3 rfl rfl ?_)
  refine (HOp.out _ ((HH.out.lookAt 0 rfl).2.imp fun _ _ hr => hr.more (Nat.zero_le _) (HH.out.lookAt 0 rfl).1)).mono ?_
  rintro e w8 ⟨t, rfl, ht, htw, htA, e8⟩
  clear htw
  have HH9 := Lib.hid (HH.out.addLook e8 (J := fun W => Sto.At W wS.heap.size w8.heap.size t) (fun _ _ hr hh => hh.imp hr) (Nat.le_refl _) (Nat.le_refl _) htA)
  have hO1 : t.objs.xs.map strip = a.O := congrArg Abs.O ht
  have HGt := Lib.hid (fun (W : World) (its : List It) (i : Nat) (hH : Heap w1 its W) (hi : its[i]? = some (It.look (fun W => Sto.At W wS.heap.size w8.heap.size t) wS.heap.size w8.heap.size (fun _ _ hr hh => hh.imp hr))) => show Calls Tryz.prog 27 #[.agg t.cells.toArray, .string ⟨#[97]⟩] W fun e w' => ∃ A c, e = .returned (.tuple #[.slice A 1 c, .bool true]) ∧ w'.ownsRow W.heap.size 5 1 (.slice A 1 c) 1 (bytes [98]) ∧ Ext W w' from by
    have hW : Sto.At W 0 W.heap.size t := (hH.lookAt i hi).2.imp fun _ _ hr => hr.more (Nat.zero_le _) (hH.lookAt i hi).1
    have h1 := one_of (xs := t.objs.xs) (by rw [hO1]; exact HKd.out)
    have h2 := get_any W t ⟨#[97]⟩ hW (fun o ho => by
      have h3 := HFt.out (strip o) (by rw [← hO1]; exact List.mem_map_of_mem ho)
      have h4 := (hW.objs.all o ho).data.len
      have h5 : o.data.xs.length ≤ 65536 := h3
      omega)
    unfold GtOut at h2
    rw [h1.1, h1.2] at h2
    exact h2)
  clear HH hO1 ht htA e8 HOp HKd HFt
  have HH := HH9
  clear HH9
  obtain ⟨⟨⟨fA, fn, fc, fx⟩, ⟨hA', hn', hc', hx'⟩⟩, ⟨zt, zf, zo⟩, ⟨rA, rn, rc, rx⟩, ⟨kA, km, kc, kx⟩⟩ := t
  simp only [Sto.cells, Dev.cells, Sl.val] at *
  go_upto_region 4 with (refine shl_store (HH.out.alloc _ _) sizeSto rfl rfl rfl rfl 0 rfl rfl rfl rfl ?_; clear HH; intro wS HHS; have HH := Lib.hid HHS; clear HHS)
  go_wp2_with (refine shl_load HH.out sizeSto (by kernel_rfl) rfl rfl rfl 0 rfl rfl ?_)
  refine (HGt.out _ _ 1 HH.out rfl).mono ?_
  rintro e w9 ⟨A9, c9, rfl, hown, e9⟩
  have HH9 := Lib.hid (HH.out.addRow e9 hown)
  clear HH hown e9 HGt
  have c1 := run_conv_str (P := Tryz.prog) w9 33 9 5 Tryz.underlying33 Tryz.underlying5 Tryz.underlying9 _ _ A9 1 c9 [98] rfl ((HH9.out.rowRd 0 rfl).m0)
  go_wp2_with (go_at_call 21; (refine (num10_any _ _).mono ?_); rintro e wN ⟨rfl, rfl⟩)
  go_ret
  exact ⟨rfl, HE1.out.trans HH9.out.ext⟩
end Go.Proofs.YtfongpdeflfioaaGreat
