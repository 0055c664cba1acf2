/- The texts Gd in one file. -/
import Derived.Test.YtfongpdeflfioaaGreatS23
import Derived.Test.YtfongpdeflfioaaGreatS2
/- godownlaw10.size, good: from any numbers and objects. -/
namespace Go.Proofs.YtfongpdeflfioaaGreat
open Go.RowKit Go.Maps Go.Sort Go.Shelf
set_option linter.unusedVariables false
set_option linter.unusedSimpArgs false
theorem size_any (w : World) (n : Int) (hn : (Lit.int .i64 n).wf = true) : Calls Tryz.prog 18 #[.int .i64 n] w fun r w' => ∃ k : Nat, r = .returned (.int .i64 (k : Int)) ∧ 6 ≤ k ∧ k ≤ 65 ∧ w' = w := by
  have h1 : -9223372036854775808 ≤ n ∧ n ≤ 9223372036854775807 := by
    simp only [Lit.wf, Bool.and_eq_true, decide_eq_true_eq] at hn
    exact hn
  have h2 : n.tmod 60 < 60 := Int.tmod_lt_of_pos n (by decide)
  have h3 : -60 < n.tmod 60 := Int.lt_tmod_of_pos n (by decide)
  have hk := Lib.hid (show ∃ k : Nat, (6 + n.tmod 60 % 60) = (k : Int) ∧ 6 ≤ k ∧ k ≤ 65 from ⟨(6 + n.tmod 60 % 60).toNat, by omega, by omega, by omega⟩)
  go_enter Tryz.func18, Tryz.ntmps18
  go_wp2_with fail
  go_ret
  obtain ⟨k, e, k1, k2⟩ := hk.out
  exact ⟨k, by rw [← e]; rfl, k1, k2, rfl⟩
structure Gd (lim : Nat) (g : List Ob) : Prop where
  six : g.length ≤ 6
  ris : risB g = true
  key : ∀ x ∈ g, x.key.size ≤ 96
  dat : ∀ x ∈ g, x.data.n ≤ lim
theorem ris_snoc {g : List Ob} {x : Ob} (h : risB g = true) (h0 : ¬ x.key.size = 0) (h96 : ¬ 96 < x.key.size) (hl : g.length = 0 ∨ lessB (ky g (g.length - 1)) x.key = true) : risB (g ++ [x]) = true := by
  have hky : ∀ k, k < g.length → ky (g ++ [x]) k = ky g k := fun k hk => by
    rw [ky, ky, List.map_append, List.getD_eq_getElem?_getD, List.getD_eq_getElem?_getD, List.getElem?_append_left (by rw [List.length_map]; exact hk)]
  have hkx : ky (g ++ [x]) g.length = x.key := by rw [ky_at _ _ (by simp)]; simp
  rw [risB] at h ⊢
  rw [Bool.not_eq_true'] at h ⊢
  rw [List.length_append, List.length_singleton, badKU_succ]
  have h1 : badKU (g ++ [x]) g.length = false := by
    rw [← h, badKU, badKU, Bool.eq_iff_iff, List.any_eq_true, List.any_eq_true]
    constructor
    · rintro ⟨k, hk, hb⟩
      have hk' := List.mem_range.1 hk
      refine ⟨k, hk, ?_⟩
      rw [badK, hky k hk'] at hb
      rw [badK]
      rcases Nat.eq_zero_or_pos k with e | e
      · subst e; exact hb
      · rw [hky (k - 1) (by omega)] at hb; exact hb
    · rintro ⟨k, hk, hb⟩
      have hk' := List.mem_range.1 hk
      refine ⟨k, hk, ?_⟩
      rw [badK, hky k hk']
      rw [badK] at hb
      rcases Nat.eq_zero_or_pos k with e | e
      · subst e; exact hb
      · rw [hky (k - 1) (by omega)]; exact hb
  rw [h1, badK, hkx]
  rcases hl with hl | hl
  · simp [h0, h96, hl]
  · rcases Nat.eq_zero_or_pos g.length with e | e
    · simp [h0, h96, e]
    · rw [hky _ (by omega), hl]; simp [h0, h96]
theorem Gd.right {lim : Nat} (hlim : lim ≤ 400) {g : List Ob} (h : Gd lim g) {s : Sto} (hs : s.ub.txg < 1099511627776) : rtE s g = 0 := by
  have hsum : ∀ l : List Ob, (∀ x ∈ l, x.key.size ≤ 96) → (∀ x ∈ l, x.data.n ≤ lim) → ((idxS (plcS l)).map fun t => 3 + t.size).sum ≤ 200 * l.length := fun l => by
    induction l with
    | nil => intro _ _; exact Nat.le_refl _
    | cons x l ih =>
      intro h1 h2
      have h3 := ih (fun y hy => h1 y (List.mem_cons_of_mem _ hy)) (fun y hy => h2 y (List.mem_cons_of_mem _ hy))
      have h4 := h1 x (List.mem_cons_self ..)
      have h5 := h2 x (List.mem_cons_self ..)
      have e : idxS (plcS (x :: l)) = [x.key, num8 (x.data.xs.length : Int), ⟨(numsO (List.replicate (cntP x.data.n) 0)).toArray⟩] ++ idxS (plcS l) := rfl
      have h8 : (num8 (x.data.xs.length : Int)).size = 8 := by show (puts _ 8).toArray.size = 8; simp [puts_length]
      have hq : (⟨(numsO (List.replicate (cntP x.data.n) 0)).toArray⟩ : ByteArray).size = 8 * cntP x.data.n := by
        show ((numsO _).toArray).size = _
        rw [List.size_toArray, numsO_len, List.length_replicate]
      rw [e, List.map_append, List.sum_append, List.length_cons]
      simp only [List.map_cons, List.map_nil, List.sum_cons, List.sum_nil, h8, hq]
      unfold cntP
      omega
  have h6 := h.six
  exact rtE_ok (by omega) h.ris (fun x hx => by have := h.dat x hx; omega) (by have := hsum g h.key h.dat; omega) hs
set_option maxRecDepth 100000 in
set_option maxHeartbeats 8000000 in
theorem good_any (w : World) (l : Sl Ob) (hl : Sl.At w 0 w.heap.size Ob.cells (Ob.At w 0 w.heap.size) l) : Calls Tryz.prog 19 #[l.val] w fun e w' => ∃ g : Sl Ob, e = .returned g.val ∧ Gd 400 g.xs ∧ Sl.At w' 0 w'.heap.size Ob.cells (Ob.At w' 0 w'.heap.size) g ∧ Ext w w' := by
  obtain ⟨i0, hi0, hz0, hz1, hz2⟩ := info_parts infoOb
  have HL := Lib.hid hl
  have hln : l.n ≤ 9223372036854775807 := Nat.le_trans hl.le hl.cap
  clear hl
  obtain ⟨lA, n, lc, xs⟩ := l
  simp only [Sl.val] at *
  have Hn := Lib.hid (show n = xs.length from HL.out.len)
  go_enter Tryz.func19, Tryz.ntmps19
  go_upto_region 3 with fail
  have HH := Lib.hid ((Heap.start w).row0 (e := 35) (size := 3))
  go_loopw [3, 4] (fun vo vi wr => ∃ (k : Nat) (g : List Ob) (A : Option Addr) (c : Nat), k ≤ n ∧ k ≤ 6 ∧ g.length ≤ k ∧ vi = .int .i64 (k : Int) ∧ vo = .slice A g.length c ∧ Hid (Gd 400 g ∧ ∀ x ∈ g, Ob.At w 0 w.heap.size x) ∧ Hid (Heap w [.row 35 3 (.slice A g.length c) g.length (g.flatMap Ob.cells)] wr)) (fun _ vi _ => n - (intOf vi).toNat)
  case atStart => exact ⟨0, [], none, 0, Nat.zero_le _, Nat.zero_le _, Nat.le_refl _, rfl, rfl, Lib.hid ⟨⟨Nat.zero_le _, rfl, (fun x hx => by simp at hx), (fun x hx => by simp at hx)⟩, (fun x hx => by simp at hx)⟩, HH⟩
  case round =>
    clear HH
    obtain ⟨k, g, A, c, hk, hk6, hgk, rfl, rfl, HG, HH⟩ := hrel
    by_cases hlt : k < n ∧ k < 6
    · obtain ⟨hlt, h6⟩ := hlt
      have l1 : k < xs.length := by rw [← Hn.out]; exact hlt
      obtain ⟨b1, o1, hlA, hb1, f0, f1, f2⟩ := rd_ob (HL.out.rd.ext HH.out.ext (Nat.le_refl _)) l1
      dsimp only at hlA
      subst hlA
      have HXA := Lib.hid (HL.out.all _ (List.getElem_mem l1))
      generalize xs[k] = x at *
      obtain ⟨key, ⟨dA, dn, dc, dx⟩, ⟨qA, qn, qc, qx⟩⟩ := x
      simp only [Sl.val] at f1 f2
      dsimp only at f0
      have q6 : decide ((k : Int) < 6) = true := by simp; omega
      have q7 : decide ((k : Int) < (n : Int)) = true := by simp; omega
      go_upto_region 6 with (refine shl_store (HH.out.alloc _ _) sizeOb rfl rfl rfl rfl 0 rfl rfl rfl rfl ?_; clear HH; intro wS HHS; have HH := Lib.hid HHS; clear HHS)
      obtain ⟨xb, hxb⟩ : ∃ b, b = wr.heap.size := ⟨_, rfl⟩
      rw [← hxb] at HH ⊢
      clear f0 f1 f2 hxb
      have HH2 := Lib.hid (show Heap w [.box xb [.string key, .slice dA dn dc, .slice qA qn qc], .row 35 3 (.slice A g.length c) g.length (g.flatMap Ob.cells)] wS from HH.out)
      clear HH
      have HH := HH2
      clear HH2
      have HGn := Lib.hid (fun (h0 : ¬ key.size = 0 ∧ ¬ 96 < key.size ∧ ¬ 400 < dn ∧ (g.length = 0 ∨ lessB (ky g (g.length - 1)) key = true)) => show Gd 400 (g ++ [⟨key, ⟨dA, dn, dc, dx⟩, ⟨none, 0, 0, []⟩⟩]) ∧ ∀ x ∈ g ++ [⟨key, ⟨dA, dn, dc, dx⟩, ⟨none, 0, 0, []⟩⟩], Ob.At w 0 w.heap.size x from by
        obtain ⟨h1, h2, h3, h4⟩ := h0
        refine ⟨⟨by rw [List.length_append]; show g.length + 1 ≤ 6; omega, ris_snoc HG.out.1.ris h1 h2 h4, fun x hx => ?_, fun x hx => ?_⟩, fun x hx => ?_⟩
        · rcases List.mem_append.1 hx with hx | hx
          · exact HG.out.1.key x hx
          · simp only [List.mem_singleton] at hx
            subst hx
            show key.size ≤ 96
            omega
        · rcases List.mem_append.1 hx with hx | hx
          · exact HG.out.1.dat x hx
          · simp only [List.mem_singleton] at hx
            subst hx
            show dn ≤ 400
            omega
        · rcases List.mem_append.1 hx with hx | hx
          · exact HG.out.2 x hx
          · simp only [List.mem_singleton] at hx
            subst hx
            exact ⟨HXA.out.key, HXA.out.data, ⟨rfl, Nat.le_refl _, Nat.zero_le _, Rd.nil, fun _ hh => by cases hh⟩⟩)
      have HKy := Lib.hid (fun (j : Nat) (hj : j < g.length) => show ky g j = g[j].key from ky_at g j hj)
      have HRw := Lib.hid (fun (W : World) (hW : Heap w [.box xb [.string key, .slice dA dn dc, .slice qA qn qc], .row 35 3 (.slice A g.length c) g.length (g.flatMap Ob.cells)] W) (j : Nat) (hj : j < g.length) => show ∃ b o, A = some ⟨b, o, none⟩ ∧ W.cell? ⟨b, o + j * 3, none⟩ = some (.string (ky g j)) from by
        obtain ⟨b, o, e, _, f, _, _⟩ := rd_ob (hW.rowRd 1 rfl) hj
        exact ⟨b, o, e, by rw [HKy.out j hj]; exact f⟩)
      clear HKy
      generalize hgl : g.length = gl at *
      have HGl := Lib.hid hgl.symm
      clear hgl
      have HHd := Lib.hid HH.out.drew
      by_cases h0 : key.size = 0
      · obtain rfl : key = ⟨#[]⟩ := empty_of key h0
        clear HGn HRw h0
        refine wp_region_held_drew (S := fun W => W.cell? ⟨xb, 0, none⟩ = some (.string ⟨#[]⟩) ∧ W.cell? ⟨xb, 1, none⟩ = some (.slice dA dn dc)) (by kernel_rfl) ⟨(HHd.out.boxAt 0 rfl).cell 0 _ rfl, (HHd.out.boxAt 0 rfl).cell 1 _ rfl⟩ (fun hHeld => ?_)
        refine tS 0 ?_; (try simp only [Act.put, lyA, lyB, lyC])
        refine tS 1 ?_; (try simp only [Act.put, lyA, lyB, lyC])
        refine tS 2 ?_; (try simp only [Act.put, lyA, lyB, lyC])
        refine tS 3 ?_; (try simp only [Act.put, lyA, lyB, lyC])
        refine sS 4 ?_; (try simp only [Act.put, lyA, lyB, lyC])
        refine sS 5 ?_; (try simp only [Act.put, lyA, lyB, lyC])
        refine sS 6 ?_; (try simp only [Act.put, lyA, lyB, lyC])
        refine sS 7 ?_; (try simp only [Act.put, lyA, lyB, lyC])
        refine tS 8 ?_; (try simp only [Act.put, lyA, lyB, lyC])
        refine tS 9 ?_; (try simp only [Act.put, lyA, lyB, lyC])
        refine sS 10 ?_; (try simp only [Act.put, lyA, lyB, lyC])
        refine sS 11 ?_; (try simp only [Act.put, lyA, lyB, lyC])
        refine sS 12 ?_; (try simp only [Act.put, lyA, lyB, lyC])
        refine sS 13 ?_; (try simp only [Act.put, lyA, lyB, lyC])
        refine tS 14 ?_; (try simp only [Act.put, lyA, lyB, lyC])
        refine tS 15 ?_; (try simp only [Act.put, lyA, lyB, lyC])
        refine sS 16 ?_; (try simp only [Act.put, lyA, lyB, lyC])
        refine sS 17 ?_; (try simp only [Act.put, lyA, lyB, lyC])
        refine sS 18 ?_; (try simp only [Act.put, lyA, lyB, lyC])
        refine sS 19 ?_; (try simp only [Act.put, lyA, lyB, lyC])
        refine sS 20 ?_; (try simp only [Act.put, lyA, lyB, lyC])
        refine sS 21 ?_; (try simp only [Act.put, lyA, lyB, lyC])
        refine sS 22 ?_; (try simp only [Act.put, lyA, lyB, lyC])
        refine sS 23 ?_; (try simp only [Act.put, lyA, lyB, lyC])
        refine sS 24 ?_; (try simp only [Act.put, lyA, lyB, lyC])
        refine sS 25 ?_; (try simp only [Act.put, lyA, lyB, lyC])
        refine sS 26 ?_; (try simp only [Act.put, lyA, lyB, lyC])
        refine sS 27 ?_; (try simp only [Act.put, lyA, lyB, lyC])
        refine sS 28 ?_; (try simp only [Act.put, lyA, lyB, lyC])
        refine sS 29 ?_; (try simp only [Act.put, lyA, lyB, lyC])
        refine sS 30 ?_; (try simp only [Act.put, lyA, lyB, lyC])
        refine tS 31 ?_; (try simp only [Act.put, lyA, lyB, lyC])
        refine wpAnyH_done (by kernel_rfl) ?_ _; clear hHeld; go_wp2_with fail; go_roundw; (case rel => exact ⟨k + 1, g, _, c, by omega, by omega, by have := HGl.out; omega, by go_num, by rw [← HGl.out], HG, Lib.hid (by rw [← HGl.out]; exact HHd.out.tail)⟩); (case measure => (first | (simp [intOf]; done) | (simp [intOf]; omega)))
      · have hke : key.toList.isEmpty = false := by
          rw [Lib.toList_data]
          cases hl : key.data.toList with
          | nil => exact absurd (by have := len_data key; rw [hl] at this; simpa using this.symm) h0
          | cons _ _ => rfl
        have hks : key.size ≤ 9223372036854775807 := Nat.le_trans HXA.out.key (by simp only [maxLen]; omega)
        by_cases h96 : 96 < key.size
        · have q : decide ((96 : Int) < (key.size : Int)) = true := by simp; omega
          clear HGn HRw
          refine wp_region_held_drew (S := fun W => W.cell? ⟨xb, 0, none⟩ = some (.string key) ∧ W.cell? ⟨xb, 1, none⟩ = some (.slice dA dn dc)) (by kernel_rfl) ⟨(HHd.out.boxAt 0 rfl).cell 0 _ rfl, (HHd.out.boxAt 0 rfl).cell 1 _ rfl⟩ (fun hHeld => ?_); generalize World.drew wS = wd at *
          refine tS 0 ?_; (try simp only [Act.put, lyA, lyB, lyC])
          refine tS 1 ?_; (try simp only [Act.put, lyA, lyB, lyC])
          refine tS 2 ?_; (try simp only [Act.put, lyA, lyB, lyC])
          refine tS 3 ?_; (try simp only [Act.put, lyA, lyB, lyC])
          refine tS 4 ?_; (try simp only [Act.put, lyA, lyB, lyC])
          refine tS 5 ?_; (try simp only [Act.put, lyA, lyB, lyC])
          refine tS 6 ?_; (try simp only [Act.put, lyA, lyB, lyC])
          refine tS 7 ?_; (try simp only [Act.put, lyA, lyB, lyC])
          refine tS 8 ?_; (try simp only [Act.put, lyA, lyB, lyC])
          refine tS 9 ?_; (try simp only [Act.put, lyA, lyB, lyC])
          refine sS 10 ?_; (try simp only [Act.put, lyA, lyB, lyC])
          refine sS 11 ?_; (try simp only [Act.put, lyA, lyB, lyC])
          refine sS 12 ?_; (try simp only [Act.put, lyA, lyB, lyC])
          refine sS 13 ?_; (try simp only [Act.put, lyA, lyB, lyC])
          refine tS 14 ?_; (try simp only [Act.put, lyA, lyB, lyC])
          refine tS 15 ?_; (try simp only [Act.put, lyA, lyB, lyC])
          refine sS 16 ?_; (try simp only [Act.put, lyA, lyB, lyC])
          refine sS 17 ?_; (try simp only [Act.put, lyA, lyB, lyC])
          refine sS 18 ?_; (try simp only [Act.put, lyA, lyB, lyC])
          refine sS 19 ?_; (try simp only [Act.put, lyA, lyB, lyC])
          refine sS 20 ?_; (try simp only [Act.put, lyA, lyB, lyC])
          refine sS 21 ?_; (try simp only [Act.put, lyA, lyB, lyC])
          refine sS 22 ?_; (try simp only [Act.put, lyA, lyB, lyC])
          refine sS 23 ?_; (try simp only [Act.put, lyA, lyB, lyC])
          refine sS 24 ?_; (try simp only [Act.put, lyA, lyB, lyC])
          refine sS 25 ?_; (try simp only [Act.put, lyA, lyB, lyC])
          refine sS 26 ?_; (try simp only [Act.put, lyA, lyB, lyC])
          refine sS 27 ?_; (try simp only [Act.put, lyA, lyB, lyC])
          refine sS 28 ?_; (try simp only [Act.put, lyA, lyB, lyC])
          refine sS 29 ?_; (try simp only [Act.put, lyA, lyB, lyC])
          refine sS 30 ?_; (try simp only [Act.put, lyA, lyB, lyC])
          refine tS 31 ?_; (try simp only [Act.put, lyA, lyB, lyC])
          refine wpAnyH_done (by kernel_rfl) ?_ _; clear hHeld; go_wp2_with fail; go_roundw; (case rel => exact ⟨k + 1, g, _, c, by omega, by omega, by have := HGl.out; omega, by go_num, by rw [← HGl.out], HG, Lib.hid (by rw [← HGl.out]; exact HHd.out.tail)⟩); (case measure => (first | (simp [intOf]; done) | (simp [intOf]; omega)))
        · have q : decide ((96 : Int) < (key.size : Int)) = false := by simp; omega
          by_cases h400 : 400 < dn
          · have q4 : decide ((400 : Int) < (dn : Int)) = true := by simp; omega
            clear HGn HRw
            refine wp_region_held_drew (S := fun W => W.cell? ⟨xb, 0, none⟩ = some (.string key) ∧ W.cell? ⟨xb, 1, none⟩ = some (.slice dA dn dc)) (by kernel_rfl) ⟨(HHd.out.boxAt 0 rfl).cell 0 _ rfl, (HHd.out.boxAt 0 rfl).cell 1 _ rfl⟩ (fun hHeld => ?_); generalize World.drew wS = wd at *
            refine tS 0 ?_; (try simp only [Act.put, lyA, lyB, lyC])
            refine tS 1 ?_; (try simp only [Act.put, lyA, lyB, lyC])
            refine tS 2 ?_; (try simp only [Act.put, lyA, lyB, lyC])
            refine tS 3 ?_; (try simp only [Act.put, lyA, lyB, lyC])
            refine tS 4 ?_; (try simp only [Act.put, lyA, lyB, lyC])
            refine tS 5 ?_; (try simp only [Act.put, lyA, lyB, lyC])
            refine tS 6 ?_; (try simp only [Act.put, lyA, lyB, lyC])
            refine tS 7 ?_; (try simp only [Act.put, lyA, lyB, lyC])
            refine tS 8 ?_; (try simp only [Act.put, lyA, lyB, lyC])
            refine tS 9 ?_; (try simp only [Act.put, lyA, lyB, lyC])
            refine tS 10 ?_; (try simp only [Act.put, lyA, lyB, lyC])
            refine tS 11 ?_; (try simp only [Act.put, lyA, lyB, lyC])
            refine tS 12 ?_; (try simp only [Act.put, lyA, lyB, lyC])
            refine tS 13 ?_; (try simp only [Act.put, lyA, lyB, lyC])
            refine tS 14 ?_; (try simp only [Act.put, lyA, lyB, lyC])
            refine tS 15 ?_; (try simp only [Act.put, lyA, lyB, lyC])
            refine sS 16 ?_; (try simp only [Act.put, lyA, lyB, lyC])
            refine sS 17 ?_; (try simp only [Act.put, lyA, lyB, lyC])
            refine sS 18 ?_; (try simp only [Act.put, lyA, lyB, lyC])
            refine sS 19 ?_; (try simp only [Act.put, lyA, lyB, lyC])
            refine sS 20 ?_; (try simp only [Act.put, lyA, lyB, lyC])
            refine sS 21 ?_; (try simp only [Act.put, lyA, lyB, lyC])
            refine sS 22 ?_; (try simp only [Act.put, lyA, lyB, lyC])
            refine sS 23 ?_; (try simp only [Act.put, lyA, lyB, lyC])
            refine sS 24 ?_; (try simp only [Act.put, lyA, lyB, lyC])
            refine sS 25 ?_; (try simp only [Act.put, lyA, lyB, lyC])
            refine sS 26 ?_; (try simp only [Act.put, lyA, lyB, lyC])
            refine sS 27 ?_; (try simp only [Act.put, lyA, lyB, lyC])
            refine sS 28 ?_; (try simp only [Act.put, lyA, lyB, lyC])
            refine sS 29 ?_; (try simp only [Act.put, lyA, lyB, lyC])
            refine sS 30 ?_; (try simp only [Act.put, lyA, lyB, lyC])
            refine tS 31 ?_; (try simp only [Act.put, lyA, lyB, lyC])
            refine wpAnyH_done (by kernel_rfl) ?_ _; clear hHeld; go_wp2_with fail; go_roundw; (case rel => exact ⟨k + 1, g, _, c, by omega, by omega, by have := HGl.out; omega, by go_num, by rw [← HGl.out], HG, Lib.hid (by rw [← HGl.out]; exact HHd.out.tail)⟩); (case measure => (first | (simp [intOf]; done) | (simp [intOf]; omega)))
          · have q4 : decide ((400 : Int) < (dn : Int)) = false := by simp; omega
            by_cases hz : gl = 0
            · have HLast := Lib.hid (⟨h0, h96, h400, .inl hz⟩ : ¬ key.size = 0 ∧ ¬ 96 < key.size ∧ ¬ 400 < dn ∧ (gl = 0 ∨ lessB (ky g (gl - 1)) key = true))
              have qg : decide (0 < gl) = false := by rw [hz]; rfl
              clear hz HRw
              refine wp_region_held_drew (S := fun W => W.cell? ⟨xb, 0, none⟩ = some (.string key) ∧ W.cell? ⟨xb, 1, none⟩ = some (.slice dA dn dc)) (by kernel_rfl) ⟨(HHd.out.boxAt 0 rfl).cell 0 _ rfl, (HHd.out.boxAt 0 rfl).cell 1 _ rfl⟩ (fun hHeld => ?_); generalize World.drew wS = wd at *
              refine tS 0 ?_; (try simp only [Act.put, lyA, lyB, lyC])
              refine tS 1 ?_; (try simp only [Act.put, lyA, lyB, lyC])
              refine tS 2 ?_; (try simp only [Act.put, lyA, lyB, lyC])
              refine tS 3 ?_; (try simp only [Act.put, lyA, lyB, lyC])
              refine tS 4 ?_; (try simp only [Act.put, lyA, lyB, lyC])
              refine tS 5 ?_; (try simp only [Act.put, lyA, lyB, lyC])
              refine tS 6 ?_; (try simp only [Act.put, lyA, lyB, lyC])
              refine tS 7 ?_; (try simp only [Act.put, lyA, lyB, lyC])
              refine tS 8 ?_; (try simp only [Act.put, lyA, lyB, lyC])
              refine tS 9 ?_; (try simp only [Act.put, lyA, lyB, lyC])
              refine tS 10 ?_; (try simp only [Act.put, lyA, lyB, lyC])
              refine tS 11 ?_; (try simp only [Act.put, lyA, lyB, lyC])
              refine tS 12 ?_; (try simp only [Act.put, lyA, lyB, lyC])
              refine tS 13 ?_; (try simp only [Act.put, lyA, lyB, lyC])
              refine tS 14 ?_; (try simp only [Act.put, lyA, lyB, lyC])
              refine tS 15 ?_; (try simp only [Act.put, lyA, lyB, lyC])
              refine tS 16 ?_; (try simp only [Act.put, lyA, lyB, lyC])
              refine tS 17 ?_; (try simp only [Act.put, lyA, lyB, lyC])
              refine tS 18 ?_; (try simp only [Act.put, lyA, lyB, lyC])
              refine tS 19 ?_; (try simp only [Act.put, lyA, lyB, lyC])
              refine sS 20 ?_; (try simp only [Act.put, lyA, lyB, lyC])
              refine sS 21 ?_; (try simp only [Act.put, lyA, lyB, lyC])
              refine sS 22 ?_; (try simp only [Act.put, lyA, lyB, lyC])
              refine sS 23 ?_; (try simp only [Act.put, lyA, lyB, lyC])
              refine sS 24 ?_; (try simp only [Act.put, lyA, lyB, lyC])
              refine sS 25 ?_; (try simp only [Act.put, lyA, lyB, lyC])
              refine sS 26 ?_; (try simp only [Act.put, lyA, lyB, lyC])
              refine sS 27 ?_; (try simp only [Act.put, lyA, lyB, lyC])
              refine sS 28 ?_; (try simp only [Act.put, lyA, lyB, lyC])
              refine sS 29 ?_; (try simp only [Act.put, lyA, lyB, lyC])
              refine tS 30 ?_; (try simp only [Act.put, lyA, lyB, lyC])
              refine tS 31 ?_; (try simp only [Act.put, lyA, lyB, lyC])
              have HH := HHd
              refine wpAnyH_done (by kernel_rfl) ?_ _; clear hHeld; go_upto_region 7 with fail; (iterate 60 (first | (refine shl_load1 HH.out rfl rfl rfl 0 rfl rfl (by decide +kernel) ?_) | at_builtin | go_step)); generalize hwA : World.alloc _ _ = w8; have HH8 := Lib.hid (HH.out.allocE hwA); clear hwA HH; refine shl_app (e := 35) (size := 3) (bytes := 64) (news := [.string key, .slice dA dn dc, .slice none 0 0]) (lo := w.heap.size) (.tmp 52) (.tmp 58) _ rfl rfl Tryz.underlying28 hi0 hz0 hz1 hz2 rfl (by omega) HH8.out 2 rfl rfl (m := 1) rfl rfl (HH8.out.boxRd 0 rfl) (by simp [Value.oneCell']) (by simp only [maxLen]; omega) (by omega) ?_; intro v9 w9 hh9 h9; obtain ⟨A9, c9, rfl⟩ := h9; have HH9 := Lib.hid hh9.tail.tail; clear hh9 HH8; go_wp2_with fail; go_roundw; (case rel => exact ⟨k + 1, g ++ [⟨key, ⟨dA, dn, dc, dx⟩, ⟨none, 0, 0, []⟩⟩], A9, c9, by omega, by omega, by rw [List.length_append, ← HGl.out, List.length_singleton]; omega, by go_num, by rw [List.length_append, ← HGl.out]; rfl, Lib.hid (HGn.out HLast.out), Lib.hid (by rw [List.length_append, List.flatMap_append, ← HGl.out]; exact HH9.out)⟩); (case measure => (first | (simp [intOf]; done) | (simp [intOf]; omega)))
            · obtain ⟨j, hj⟩ : ∃ j, gl = j + 1 := ⟨gl - 1, by omega⟩
              subst hj
              obtain ⟨b2, o2, rfl, f3⟩ := HRw.out _ HHd.out j (by omega)
              rw [Nat.add_sub_cancel] at HGn
              have hjn : (j : Int) < ((j : Int) + 1) := by omega
              have hs0 : IntKind.i64.wrap (j : Int) = (j : Int) := IntWalk.i64_in _ (by omega)
              clear HRw hz
              generalize ky g j = z at *
              cases hq : lessB z key
              · have hq2 : Op.bytesLess z.toList key.toList = false := hq
                clear HGn hq
                refine wp_region_held_drew (S := fun W => W.cell? ⟨xb, 0, none⟩ = some (.string key) ∧ W.cell? ⟨xb, 1, none⟩ = some (.slice dA dn dc) ∧ W.cell? ⟨b2, o2 + j * 3, none⟩ = some (.string z)) (by kernel_rfl) ⟨(HHd.out.boxAt 0 rfl).cell 0 _ rfl, (HHd.out.boxAt 0 rfl).cell 1 _ rfl, f3⟩ (fun hHeld => ?_); generalize World.drew wS = wd at *
                refine tS 0 ?_; (try simp only [Act.put, lyA, lyB, lyC])
                refine tS 1 ?_; (try simp only [Act.put, lyA, lyB, lyC])
                refine tS 2 ?_; (try simp only [Act.put, lyA, lyB, lyC])
                refine tS 3 ?_; (try simp only [Act.put, lyA, lyB, lyC])
                refine tS 4 ?_; (try simp only [Act.put, lyA, lyB, lyC])
                refine tS 5 ?_; (try simp only [Act.put, lyA, lyB, lyC])
                refine tS 6 ?_; (try simp only [Act.put, lyA, lyB, lyC])
                refine tS 7 ?_; (try simp only [Act.put, lyA, lyB, lyC])
                refine tS 8 ?_; (try simp only [Act.put, lyA, lyB, lyC])
                refine tS 9 ?_; (try simp only [Act.put, lyA, lyB, lyC])
                refine tS 10 ?_; (try simp only [Act.put, lyA, lyB, lyC])
                refine tS 11 ?_; (try simp only [Act.put, lyA, lyB, lyC])
                refine tS 12 ?_; (try simp only [Act.put, lyA, lyB, lyC])
                refine tS 13 ?_; (try simp only [Act.put, lyA, lyB, lyC])
                refine tS 14 ?_; (try simp only [Act.put, lyA, lyB, lyC])
                refine tS 15 ?_; (try simp only [Act.put, lyA, lyB, lyC])
                refine tS 16 ?_; (try simp only [Act.put, lyA, lyB, lyC])
                refine tS 17 ?_; (try simp only [Act.put, lyA, lyB, lyC])
                refine tS 18 ?_; (try simp only [Act.put, lyA, lyB, lyC])
                refine tS 19 ?_; (try simp only [Act.put, lyA, lyB, lyC])
                refine tS 20 ?_; (try simp only [Act.put, lyA, lyB, lyC])
                refine tS 21 ?_; (try simp only [Act.put, lyA, lyB, lyC])
                refine tS 22 ?_; (try simp only [Act.put, lyA, lyB, lyC])
                refine tS 23 ?_; (try simp only [Act.put, lyA, lyB, lyC])
                refine tS 24 ?_; (try simp only [Act.put, lyA, lyB, lyC])
                refine tS 25 ?_; (try simp only [Act.put, lyA, lyB, lyC])
                refine tS 26 ?_; (try simp only [Act.put, lyA, lyB, lyC])
                refine tS 27 ?_; (try simp only [Act.put, lyA, lyB, lyC])
                refine tS 28 ?_; (try simp only [Act.put, lyA, lyB, lyC])
                refine tS 29 ?_; (try simp only [Act.put, lyA, lyB, lyC])
                refine tS 30 ?_; (try simp only [Act.put, lyA, lyB, lyC])
                refine tS 31 ?_; (try simp only [Act.put, lyA, lyB, lyC])
                refine wpAnyH_done (by kernel_rfl) ?_ _; clear hHeld; go_wp2_with fail; go_roundw; (case rel => exact ⟨k + 1, g, _, c, by omega, by omega, by have := HGl.out; omega, by go_num, by rw [← HGl.out], HG, Lib.hid (by rw [← HGl.out]; exact HHd.out.tail)⟩); (case measure => (first | (simp [intOf]; done) | (simp [intOf]; omega)))
              · have hq2 : Op.bytesLess z.toList key.toList = true := hq
                have hlast : ¬ key.size = 0 ∧ ¬ 96 < key.size ∧ ¬ 400 < dn ∧ (j + 1 = 0 ∨ lessB z key = true) := ⟨h0, h96, h400, .inr hq⟩
                have HLast := Lib.hid hlast
                clear hlast hq
                refine wp_region_held_drew (S := fun W => W.cell? ⟨xb, 0, none⟩ = some (.string key) ∧ W.cell? ⟨xb, 1, none⟩ = some (.slice dA dn dc) ∧ W.cell? ⟨b2, o2 + j * 3, none⟩ = some (.string z)) (by kernel_rfl) ⟨(HHd.out.boxAt 0 rfl).cell 0 _ rfl, (HHd.out.boxAt 0 rfl).cell 1 _ rfl, f3⟩ (fun hHeld => ?_); generalize World.drew wS = wd at *
                refine tS 0 ?_; (try simp only [Act.put, lyA, lyB, lyC])
                refine tS 1 ?_; (try simp only [Act.put, lyA, lyB, lyC])
                refine tS 2 ?_; (try simp only [Act.put, lyA, lyB, lyC])
                refine tS 3 ?_; (try simp only [Act.put, lyA, lyB, lyC])
                refine tS 4 ?_; (try simp only [Act.put, lyA, lyB, lyC])
                refine tS 5 ?_; (try simp only [Act.put, lyA, lyB, lyC])
                refine tS 6 ?_; (try simp only [Act.put, lyA, lyB, lyC])
                refine tS 7 ?_; (try simp only [Act.put, lyA, lyB, lyC])
                refine tS 8 ?_; (try simp only [Act.put, lyA, lyB, lyC])
                refine tS 9 ?_; (try simp only [Act.put, lyA, lyB, lyC])
                refine tS 10 ?_; (try simp only [Act.put, lyA, lyB, lyC])
                refine tS 11 ?_; (try simp only [Act.put, lyA, lyB, lyC])
                refine tS 12 ?_; (try simp only [Act.put, lyA, lyB, lyC])
                refine tS 13 ?_; (try simp only [Act.put, lyA, lyB, lyC])
                refine tS 14 ?_; (try simp only [Act.put, lyA, lyB, lyC])
                refine tS 15 ?_; (try simp only [Act.put, lyA, lyB, lyC])
                refine tS 16 ?_; (try simp only [Act.put, lyA, lyB, lyC])
                refine tS 17 ?_; (try simp only [Act.put, lyA, lyB, lyC])
                refine tS 18 ?_; (try simp only [Act.put, lyA, lyB, lyC])
                refine tS 19 ?_; (try simp only [Act.put, lyA, lyB, lyC])
                refine tS 20 ?_; (try simp only [Act.put, lyA, lyB, lyC])
                refine tS 21 ?_; (try simp only [Act.put, lyA, lyB, lyC])
                refine tS 22 ?_; (try simp only [Act.put, lyA, lyB, lyC])
                refine tS 23 ?_; (try simp only [Act.put, lyA, lyB, lyC])
                refine tS 24 ?_; (try simp only [Act.put, lyA, lyB, lyC])
                refine tS 25 ?_; (try simp only [Act.put, lyA, lyB, lyC])
                refine tS 26 ?_; (try simp only [Act.put, lyA, lyB, lyC])
                refine tS 27 ?_; (try simp only [Act.put, lyA, lyB, lyC])
                refine tS 28 ?_; (try simp only [Act.put, lyA, lyB, lyC])
                refine tS 29 ?_; (try simp only [Act.put, lyA, lyB, lyC])
                refine tS 30 ?_; (try simp only [Act.put, lyA, lyB, lyC])
                refine tS 31 ?_; (try simp only [Act.put, lyA, lyB, lyC])
                have HH := HHd
                refine wpAnyH_done (by kernel_rfl) ?_ _; clear hHeld; go_upto_region 7 with fail; (iterate 60 (first | (refine shl_load1 HH.out rfl rfl rfl 0 rfl rfl (by decide +kernel) ?_) | at_builtin | go_step)); generalize hwA : World.alloc _ _ = w8; have HH8 := Lib.hid (HH.out.allocE hwA); clear hwA HH; refine shl_app (e := 35) (size := 3) (bytes := 64) (news := [.string key, .slice dA dn dc, .slice none 0 0]) (lo := w.heap.size) (.tmp 52) (.tmp 58) _ rfl rfl Tryz.underlying28 hi0 hz0 hz1 hz2 rfl (by omega) HH8.out 2 rfl rfl (m := 1) rfl rfl (HH8.out.boxRd 0 rfl) (by simp [Value.oneCell']) (by simp only [maxLen]; omega) (by omega) ?_; intro v9 w9 hh9 h9; obtain ⟨A9, c9, rfl⟩ := h9; have HH9 := Lib.hid hh9.tail.tail; clear hh9 HH8; go_wp2_with fail; go_roundw; (case rel => exact ⟨k + 1, g ++ [⟨key, ⟨dA, dn, dc, dx⟩, ⟨none, 0, 0, []⟩⟩], A9, c9, by omega, by omega, by rw [List.length_append, ← HGl.out, List.length_singleton]; omega, by go_num, by rw [List.length_append, ← HGl.out]; rfl, Lib.hid (HGn.out HLast.out), Lib.hid (by rw [List.length_append, List.flatMap_append, ← HGl.out]; exact HH9.out)⟩); (case measure => (first | (simp [intOf]; done) | (simp [intOf]; omega)))
    · have hfin := Lib.hid (show ∃ g' : Sl Ob, Value.slice A g.length c = g'.val ∧ Gd 400 g'.xs ∧ Sl.At wr 0 wr.heap.size Ob.cells (Ob.At wr 0 wr.heap.size) g' from
        ⟨⟨A, g.length, c, g⟩, rfl, HG.out.1, ⟨rfl, (own_form2 (HH.out.rowAt 0 rfl)).1, (own_form2 (HH.out.rowAt 0 rfl)).2, (HH.out.rowRd 0 rfl).m0, fun x hx => Ob.At.on (HG.out.2 x hx) HH.out.ext (Nat.le_refl _)⟩⟩)
      have HE := Lib.hid HH.out.ext
      by_cases h1 : k < n
      · have q7 : decide ((k : Int) < (n : Int)) = true := by simp; omega
        have q6 : decide ((k : Int) < 6) = false := by simp; omega
        have h6 : ¬ k < 6 := fun h => hlt ⟨h1, h⟩
        clear hlt
        go_wp2_with fail
        go_ret
        obtain ⟨g', e, h1, h2⟩ := hfin.out
        exact ⟨g', congrArg Ending.returned e, h1, h2, HE.out⟩
      · have q7 : decide ((k : Int) < (n : Int)) = false := by simp; omega
        clear hlt
        go_wp2_with fail
        go_ret
        obtain ⟨g', e, h1, h2⟩ := hfin.out
        exact ⟨g', congrArg Ending.returned e, h1, h2, HE.out⟩
end Go.Proofs.YtfongpdeflfioaaGreat
