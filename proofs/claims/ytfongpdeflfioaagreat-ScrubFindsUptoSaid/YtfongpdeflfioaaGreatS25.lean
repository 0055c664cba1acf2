/- The texts Gdd in one file. -/
import Derived.Test.YtfongpdeflfioaaGreatS24
import Derived.Test.YtfongpdeflfioaaGreatS2
/- godownlaw40.good. -/
namespace Go.Proofs.YtfongpdeflfioaaGreat
open Go.RowKit Go.Maps Go.Sort Go.Shelf
set_option linter.unusedVariables false
set_option linter.unusedSimpArgs false
def badG (x : Ob) : Prop := x.key.size = 0 ∨ 96 < x.key.size ∨ 300 < x.data.n
set_option maxRecDepth 100000 in
set_option maxHeartbeats 8000000 in
theorem good40_any (w : World) (l : Sl Ob) (hl : Sl.At w 0 w.heap.size Ob.cells (Ob.At w 0 w.heap.size) l) : Calls Tryz.prog 32 #[l.val] w fun e w' => ∃ g : Sl Ob, e = .returned g.val ∧ Gd 300 g.xs ∧ (g.xs = [] ↔ ∀ x ∈ l.xs.take 6, badG x) ∧ Sl.At w' 0 w'.heap.size Ob.cells (Ob.At w' 0 w'.heap.size) g ∧ Ext w w' := by
  obtain ⟨i0, hi0, hz0, hz1, hz2⟩ := info_parts infoOb
  have HL := Lib.hid hl
  have hln : l.n ≤ 9223372036854775807 := Nat.le_trans hl.le hl.cap
  clear hl
  obtain ⟨lA, n, lc, xs⟩ := l
  simp only [Sl.val] at *
  have Hn := Lib.hid (show n = xs.length from HL.out.len)
  go_enter Tryz.func32, Tryz.ntmps32
  go_upto_region 3 with fail
  have HH := Lib.hid ((Heap.start w).row0 (e := 35) (size := 3))
  go_loopw [3, 4] (fun vo vi wr => ∃ (k : Nat) (g : List Ob) (A : Option Addr) (c : Nat), k ≤ n ∧ k ≤ 6 ∧ g.length ≤ k ∧ vi = .int .i64 (k : Int) ∧ vo = .slice A g.length c ∧ Hid (Gd 300 g ∧ ∀ x ∈ g, Ob.At w 0 w.heap.size x) ∧ Hid (Heap w [.row 35 3 (.slice A g.length c) g.length (g.flatMap Ob.cells)] wr) ∧ Hid (g = [] ↔ ∀ x ∈ xs.take k, badG x)) (fun _ vi _ => n - (intOf vi).toNat)
  case atStart => exact ⟨0, [], none, 0, Nat.zero_le _, Nat.zero_le _, Nat.le_refl _, rfl, rfl, Lib.hid ⟨⟨Nat.zero_le _, rfl, (fun x hx => by simp at hx), (fun x hx => by simp at hx)⟩, (fun x hx => by simp at hx)⟩, HH, Lib.hid (by simp)⟩
  case round =>
    clear HH
    obtain ⟨k, g, A, c, hk, hk6, hgk, rfl, rfl, HG, HH, HE0⟩ := hrel
    by_cases hlt : k < n ∧ k < 6
    · obtain ⟨hlt, h6⟩ := hlt
      have l1 : k < xs.length := by rw [← Hn.out]; exact hlt
      obtain ⟨b1, o1, hlA, hb1, f0, f1, f2⟩ := rd_ob (HL.out.rd.ext HH.out.ext (Nat.le_refl _)) l1
      dsimp only at hlA
      subst hlA
      have HXA := Lib.hid (HL.out.all _ (List.getElem_mem l1))
      have HT := Lib.hid (List.take_succ_eq_append_getElem l1)
      generalize xs[k] = x at *
      obtain ⟨key, ⟨dA, dn, dc, dx⟩, ⟨qA, qn, qc, qx⟩⟩ := x
      simp only [Sl.val] at f1 f2
      dsimp only at f0
      have q6 : decide ((k : Int) < 6) = true := by simp; omega
      have q7 : decide ((k : Int) < (n : Int)) = true := by simp; omega
      go_upto_region 6 with (refine shl_store (HH.out.alloc _ _) sizeOb rfl rfl rfl rfl 0 rfl rfl rfl rfl ?_; clear HH; intro wS HHS; have HH := Lib.hid HHS; clear HHS)
      obtain ⟨xb, hxb⟩ : ∃ b, b = wr.heap.size := ⟨_, rfl⟩
      rw [← hxb] at HH ⊢
      clear f0 f1 f2 hxb
      have HH2 := Lib.hid (show Heap w [.box xb [.string key, .slice dA dn dc, .slice qA qn qc], .row 35 3 (.slice A g.length c) g.length (g.flatMap Ob.cells)] wS from HH.out)
      clear HH
      have HH := HH2
      clear HH2
      have HGn := Lib.hid (fun (h0 : ¬ key.size = 0 ∧ ¬ 96 < key.size ∧ ¬ 300 < dn ∧ (g.length = 0 ∨ lessB (ky g (g.length - 1)) key = true)) => show Gd 300 (g ++ [⟨key, ⟨dA, dn, dc, dx⟩, ⟨none, 0, 0, []⟩⟩]) ∧ ∀ x ∈ g ++ [⟨key, ⟨dA, dn, dc, dx⟩, ⟨none, 0, 0, []⟩⟩], Ob.At w 0 w.heap.size x from by
        obtain ⟨h1, h2, h3, h4⟩ := h0
        refine ⟨⟨by rw [List.length_append]; show g.length + 1 ≤ 6; omega, ris_snoc HG.out.1.ris h1 h2 h4, fun x hx => ?_, fun x hx => ?_⟩, fun x hx => ?_⟩
        · rcases List.mem_append.1 hx with hx | hx
          · exact HG.out.1.key x hx
          · simp only [List.mem_singleton] at hx
            subst hx
            show key.size ≤ 96
            omega
        · rcases List.mem_append.1 hx with hx | hx
          · exact HG.out.1.dat x hx
          · simp only [List.mem_singleton] at hx
            subst hx
            show dn ≤ 300
            omega
        · rcases List.mem_append.1 hx with hx | hx
          · exact HG.out.2 x hx
          · simp only [List.mem_singleton] at hx
            subst hx
            exact ⟨HXA.out.key, HXA.out.data, ⟨rfl, Nat.le_refl _, Nat.zero_le _, Rd.nil, fun _ hh => by cases hh⟩⟩)
      have HGs := Lib.hid (fun (hb : badG ⟨key, ⟨dA, dn, dc, dx⟩, ⟨qA, qn, qc, qx⟩⟩ ∨ g ≠ []) => show (g = [] ↔ ∀ x ∈ xs.take (k + 1), badG x) by
        rw [HT.out]
        constructor
        · intro hg x hx
          rcases hb with hb | hb
          · rcases List.mem_append.1 hx with hx | hx
            · exact HE0.out.1 hg x hx
            · simp only [List.mem_singleton] at hx
              subst hx; exact hb
          · exact absurd hg hb
        · intro h
          exact HE0.out.2 fun x hx => h x (List.mem_append_left _ hx))
      have HGk := Lib.hid (fun (hb : ¬ badG ⟨key, ⟨dA, dn, dc, dx⟩, ⟨qA, qn, qc, qx⟩⟩) => show (g ++ [(⟨key, ⟨dA, dn, dc, dx⟩, ⟨none, 0, 0, []⟩⟩ : Ob)] = [] ↔ ∀ x ∈ xs.take (k + 1), badG x) by
        rw [HT.out]
        constructor
        · intro h
          have := congrArg List.length h
          simp at this
        · intro h
          exact absurd (h _ (List.mem_append_right _ (List.mem_singleton.2 rfl))) hb)
      have HKy := Lib.hid (fun (j : Nat) (hj : j < g.length) => show ky g j = g[j].key from ky_at g j hj)
      have HRw := Lib.hid (fun (W : World) (hW : Heap w [.box xb [.string key, .slice dA dn dc, .slice qA qn qc], .row 35 3 (.slice A g.length c) g.length (g.flatMap Ob.cells)] W) (j : Nat) (hj : j < g.length) => show ∃ b o, A = some ⟨b, o, none⟩ ∧ W.cell? ⟨b, o + j * 3, none⟩ = some (.string (ky g j)) from by
        obtain ⟨b, o, e, _, f, _, _⟩ := rd_ob (hW.rowRd 1 rfl) hj
        exact ⟨b, o, e, by rw [HKy.out j hj]; exact f⟩)
      clear HKy
      generalize hgl : g.length = gl at *
      have HGl := Lib.hid hgl.symm
      clear hgl
      have HHd := Lib.hid HH.out.drew
      by_cases h0 : key.size = 0
      · obtain rfl : key = ⟨#[]⟩ := empty_of key h0
        clear HGn HRw h0
        have HBx := Lib.hid (show badG (⟨⟨#[]⟩, ⟨dA, dn, dc, dx⟩, ⟨qA, qn, qc, qx⟩⟩ : Ob) ∨ g ≠ [] from .inl (.inl rfl))
        refine wp_region_held_drew (S := fun W => W.cell? ⟨xb, 0, none⟩ = some (.string ⟨#[]⟩) ∧ W.cell? ⟨xb, 1, none⟩ = some (.slice dA dn dc)) (by kernel_rfl) ⟨(HHd.out.boxAt 0 rfl).cell 0 _ rfl, (HHd.out.boxAt 0 rfl).cell 1 _ rfl⟩ (fun hHeld => ?_)
        refine tS 0 ?_; (try simp only [Act.put, lyA, lyB, lyC])
        refine tS 1 ?_; (try simp only [Act.put, lyA, lyB, lyC])
        refine tS 2 ?_; (try simp only [Act.put, lyA, lyB, lyC])
        refine tS 3 ?_; (try simp only [Act.put, lyA, lyB, lyC])
        refine sS 4 ?_; (try simp only [Act.put, lyA, lyB, lyC])
        refine sS 5 ?_; (try simp only [Act.put, lyA, lyB, lyC])
        refine sS 6 ?_; (try simp only [Act.put, lyA, lyB, lyC])
        refine sS 7 ?_; (try simp only [Act.put, lyA, lyB, lyC])
        refine tS 8 ?_; (try simp only [Act.put, lyA, lyB, lyC])
        refine tS 9 ?_; (try simp only [Act.put, lyA, lyB, lyC])
        refine sS 10 ?_; (try simp only [Act.put, lyA, lyB, lyC])
        refine sS 11 ?_; (try simp only [Act.put, lyA, lyB, lyC])
        refine sS 12 ?_; (try simp only [Act.put, lyA, lyB, lyC])
        refine sS 13 ?_; (try simp only [Act.put, lyA, lyB, lyC])
        refine tS 14 ?_; (try simp only [Act.put, lyA, lyB, lyC])
        refine tS 15 ?_; (try simp only [Act.put, lyA, lyB, lyC])
        refine sS 16 ?_; (try simp only [Act.put, lyA, lyB, lyC])
        refine sS 17 ?_; (try simp only [Act.put, lyA, lyB, lyC])
        refine sS 18 ?_; (try simp only [Act.put, lyA, lyB, lyC])
        refine sS 19 ?_; (try simp only [Act.put, lyA, lyB, lyC])
        refine sS 20 ?_; (try simp only [Act.put, lyA, lyB, lyC])
        refine sS 21 ?_; (try simp only [Act.put, lyA, lyB, lyC])
        refine sS 22 ?_; (try simp only [Act.put, lyA, lyB, lyC])
        refine sS 23 ?_; (try simp only [Act.put, lyA, lyB, lyC])
        refine sS 24 ?_; (try simp only [Act.put, lyA, lyB, lyC])
        refine sS 25 ?_; (try simp only [Act.put, lyA, lyB, lyC])
        refine sS 26 ?_; (try simp only [Act.put, lyA, lyB, lyC])
        refine sS 27 ?_; (try simp only [Act.put, lyA, lyB, lyC])
        refine sS 28 ?_; (try simp only [Act.put, lyA, lyB, lyC])
        refine sS 29 ?_; (try simp only [Act.put, lyA, lyB, lyC])
        refine sS 30 ?_; (try simp only [Act.put, lyA, lyB, lyC])
        refine tS 31 ?_; (try simp only [Act.put, lyA, lyB, lyC])
        refine wpAnyH_done (by kernel_rfl) ?_ _; clear hHeld; go_wp2_with fail; go_roundw; (case rel => exact ⟨k + 1, g, _, c, by omega, by omega, by have := HGl.out; omega, by go_num, by rw [← HGl.out], HG, Lib.hid (by rw [← HGl.out]; exact HHd.out.tail), Lib.hid (HGs.out HBx.out)⟩); (case measure => (first | (simp [intOf]; done) | (simp [intOf]; omega)))
      · have hke : key.toList.isEmpty = false := by
          rw [Lib.toList_data]
          cases hl : key.data.toList with
          | nil => exact absurd (by have := len_data key; rw [hl] at this; simpa using this.symm) h0
          | cons _ _ => rfl
        have hks : key.size ≤ 9223372036854775807 := Nat.le_trans HXA.out.key (by simp only [maxLen]; omega)
        by_cases h96 : 96 < key.size
        · have q : decide ((96 : Int) < (key.size : Int)) = true := by simp; omega
          have HBx := Lib.hid (show badG (⟨key, ⟨dA, dn, dc, dx⟩, ⟨qA, qn, qc, qx⟩⟩ : Ob) ∨ g ≠ [] from .inl (.inr (.inl h96)))
          clear HGn HRw
          refine wp_region_held_drew (S := fun W => W.cell? ⟨xb, 0, none⟩ = some (.string key) ∧ W.cell? ⟨xb, 1, none⟩ = some (.slice dA dn dc)) (by kernel_rfl) ⟨(HHd.out.boxAt 0 rfl).cell 0 _ rfl, (HHd.out.boxAt 0 rfl).cell 1 _ rfl⟩ (fun hHeld => ?_); generalize World.drew wS = wd at *
          refine tS 0 ?_; (try simp only [Act.put, lyA, lyB, lyC])
          refine tS 1 ?_; (try simp only [Act.put, lyA, lyB, lyC])
          refine tS 2 ?_; (try simp only [Act.put, lyA, lyB, lyC])
          refine tS 3 ?_; (try simp only [Act.put, lyA, lyB, lyC])
          refine tS 4 ?_; (try simp only [Act.put, lyA, lyB, lyC])
          refine tS 5 ?_; (try simp only [Act.put, lyA, lyB, lyC])
          refine tS 6 ?_; (try simp only [Act.put, lyA, lyB, lyC])
          refine tS 7 ?_; (try simp only [Act.put, lyA, lyB, lyC])
          refine tS 8 ?_; (try simp only [Act.put, lyA, lyB, lyC])
          refine tS 9 ?_; (try simp only [Act.put, lyA, lyB, lyC])
          refine sS 10 ?_; (try simp only [Act.put, lyA, lyB, lyC])
          refine sS 11 ?_; (try simp only [Act.put, lyA, lyB, lyC])
          refine sS 12 ?_; (try simp only [Act.put, lyA, lyB, lyC])
          refine sS 13 ?_; (try simp only [Act.put, lyA, lyB, lyC])
          refine tS 14 ?_; (try simp only [Act.put, lyA, lyB, lyC])
          refine tS 15 ?_; (try simp only [Act.put, lyA, lyB, lyC])
          refine sS 16 ?_; (try simp only [Act.put, lyA, lyB, lyC])
          refine sS 17 ?_; (try simp only [Act.put, lyA, lyB, lyC])
          refine sS 18 ?_; (try simp only [Act.put, lyA, lyB, lyC])
          refine sS 19 ?_; (try simp only [Act.put, lyA, lyB, lyC])
          refine sS 20 ?_; (try simp only [Act.put, lyA, lyB, lyC])
          refine sS 21 ?_; (try simp only [Act.put, lyA, lyB, lyC])
          refine sS 22 ?_; (try simp only [Act.put, lyA, lyB, lyC])
          refine sS 23 ?_; (try simp only [Act.put, lyA, lyB, lyC])
          refine sS 24 ?_; (try simp only [Act.put, lyA, lyB, lyC])
          refine sS 25 ?_; (try simp only [Act.put, lyA, lyB, lyC])
          refine sS 26 ?_; (try simp only [Act.put, lyA, lyB, lyC])
          refine sS 27 ?_; (try simp only [Act.put, lyA, lyB, lyC])
          refine sS 28 ?_; (try simp only [Act.put, lyA, lyB, lyC])
          refine sS 29 ?_; (try simp only [Act.put, lyA, lyB, lyC])
          refine sS 30 ?_; (try simp only [Act.put, lyA, lyB, lyC])
          refine tS 31 ?_; (try simp only [Act.put, lyA, lyB, lyC])
          refine wpAnyH_done (by kernel_rfl) ?_ _; clear hHeld; go_wp2_with fail; go_roundw; (case rel => exact ⟨k + 1, g, _, c, by omega, by omega, by have := HGl.out; omega, by go_num, by rw [← HGl.out], HG, Lib.hid (by rw [← HGl.out]; exact HHd.out.tail), Lib.hid (HGs.out HBx.out)⟩); (case measure => (first | (simp [intOf]; done) | (simp [intOf]; omega)))
        · have q : decide ((96 : Int) < (key.size : Int)) = false := by simp; omega
          by_cases h400 : 300 < dn
          · have q4 : decide ((300 : Int) < (dn : Int)) = true := by simp; omega
            have HBx := Lib.hid (show badG (⟨key, ⟨dA, dn, dc, dx⟩, ⟨qA, qn, qc, qx⟩⟩ : Ob) ∨ g ≠ [] from .inl (.inr (.inr h400)))
            clear HGn HRw
            refine wp_region_held_drew (S := fun W => W.cell? ⟨xb, 0, none⟩ = some (.string key) ∧ W.cell? ⟨xb, 1, none⟩ = some (.slice dA dn dc)) (by kernel_rfl) ⟨(HHd.out.boxAt 0 rfl).cell 0 _ rfl, (HHd.out.boxAt 0 rfl).cell 1 _ rfl⟩ (fun hHeld => ?_); generalize World.drew wS = wd at *
            refine tS 0 ?_; (try simp only [Act.put, lyA, lyB, lyC])
            refine tS 1 ?_; (try simp only [Act.put, lyA, lyB, lyC])
            refine tS 2 ?_; (try simp only [Act.put, lyA, lyB, lyC])
            refine tS 3 ?_; (try simp only [Act.put, lyA, lyB, lyC])
            refine tS 4 ?_; (try simp only [Act.put, lyA, lyB, lyC])
            refine tS 5 ?_; (try simp only [Act.put, lyA, lyB, lyC])
            refine tS 6 ?_; (try simp only [Act.put, lyA, lyB, lyC])
            refine tS 7 ?_; (try simp only [Act.put, lyA, lyB, lyC])
            refine tS 8 ?_; (try simp only [Act.put, lyA, lyB, lyC])
            refine tS 9 ?_; (try simp only [Act.put, lyA, lyB, lyC])
            refine tS 10 ?_; (try simp only [Act.put, lyA, lyB, lyC])
            refine tS 11 ?_; (try simp only [Act.put, lyA, lyB, lyC])
            refine tS 12 ?_; (try simp only [Act.put, lyA, lyB, lyC])
            refine tS 13 ?_; (try simp only [Act.put, lyA, lyB, lyC])
            refine tS 14 ?_; (try simp only [Act.put, lyA, lyB, lyC])
            refine tS 15 ?_; (try simp only [Act.put, lyA, lyB, lyC])
            refine sS 16 ?_; (try simp only [Act.put, lyA, lyB, lyC])
            refine sS 17 ?_; (try simp only [Act.put, lyA, lyB, lyC])
            refine sS 18 ?_; (try simp only [Act.put, lyA, lyB, lyC])
            refine sS 19 ?_; (try simp only [Act.put, lyA, lyB, lyC])
            refine sS 20 ?_; (try simp only [Act.put, lyA, lyB, lyC])
            refine sS 21 ?_; (try simp only [Act.put, lyA, lyB, lyC])
            refine sS 22 ?_; (try simp only [Act.put, lyA, lyB, lyC])
            refine sS 23 ?_; (try simp only [Act.put, lyA, lyB, lyC])
            refine sS 24 ?_; (try simp only [Act.put, lyA, lyB, lyC])
            refine sS 25 ?_; (try simp only [Act.put, lyA, lyB, lyC])
            refine sS 26 ?_; (try simp only [Act.put, lyA, lyB, lyC])
            refine sS 27 ?_; (try simp only [Act.put, lyA, lyB, lyC])
            refine sS 28 ?_; (try simp only [Act.put, lyA, lyB, lyC])
            refine sS 29 ?_; (try simp only [Act.put, lyA, lyB, lyC])
            refine sS 30 ?_; (try simp only [Act.put, lyA, lyB, lyC])
            refine tS 31 ?_; (try simp only [Act.put, lyA, lyB, lyC])
            refine wpAnyH_done (by kernel_rfl) ?_ _; clear hHeld; go_wp2_with fail; go_roundw; (case rel => exact ⟨k + 1, g, _, c, by omega, by omega, by have := HGl.out; omega, by go_num, by rw [← HGl.out], HG, Lib.hid (by rw [← HGl.out]; exact HHd.out.tail), Lib.hid (HGs.out HBx.out)⟩); (case measure => (first | (simp [intOf]; done) | (simp [intOf]; omega)))
          · have q4 : decide ((300 : Int) < (dn : Int)) = false := by simp; omega
            have HBy := Lib.hid (show ¬ badG (⟨key, ⟨dA, dn, dc, dx⟩, ⟨qA, qn, qc, qx⟩⟩ : Ob) from fun h => h.elim h0 fun h => h.elim h96 h400)
            by_cases hz : gl = 0
            · have HLast := Lib.hid (⟨h0, h96, h400, .inl hz⟩ : ¬ key.size = 0 ∧ ¬ 96 < key.size ∧ ¬ 300 < dn ∧ (gl = 0 ∨ lessB (ky g (gl - 1)) key = true))
              have qg : decide (0 < gl) = false := by rw [hz]; rfl
              clear hz HRw
              refine wp_region_held_drew (S := fun W => W.cell? ⟨xb, 0, none⟩ = some (.string key) ∧ W.cell? ⟨xb, 1, none⟩ = some (.slice dA dn dc)) (by kernel_rfl) ⟨(HHd.out.boxAt 0 rfl).cell 0 _ rfl, (HHd.out.boxAt 0 rfl).cell 1 _ rfl⟩ (fun hHeld => ?_); generalize World.drew wS = wd at *
              refine tS 0 ?_; (try simp only [Act.put, lyA, lyB, lyC])
              refine tS 1 ?_; (try simp only [Act.put, lyA, lyB, lyC])
              refine tS 2 ?_; (try simp only [Act.put, lyA, lyB, lyC])
              refine tS 3 ?_; (try simp only [Act.put, lyA, lyB, lyC])
              refine tS 4 ?_; (try simp only [Act.put, lyA, lyB, lyC])
              refine tS 5 ?_; (try simp only [Act.put, lyA, lyB, lyC])
              refine tS 6 ?_; (try simp only [Act.put, lyA, lyB, lyC])
              refine tS 7 ?_; (try simp only [Act.put, lyA, lyB, lyC])
              refine tS 8 ?_; (try simp only [Act.put, lyA, lyB, lyC])
              refine tS 9 ?_; (try simp only [Act.put, lyA, lyB, lyC])
              refine tS 10 ?_; (try simp only [Act.put, lyA, lyB, lyC])
              refine tS 11 ?_; (try simp only [Act.put, lyA, lyB, lyC])
              refine tS 12 ?_; (try simp only [Act.put, lyA, lyB, lyC])
              refine tS 13 ?_; (try simp only [Act.put, lyA, lyB, lyC])
              refine tS 14 ?_; (try simp only [Act.put, lyA, lyB, lyC])
              refine tS 15 ?_; (try simp only [Act.put, lyA, lyB, lyC])
              refine tS 16 ?_; (try simp only [Act.put, lyA, lyB, lyC])
              refine tS 17 ?_; (try simp only [Act.put, lyA, lyB, lyC])
              refine tS 18 ?_; (try simp only [Act.put, lyA, lyB, lyC])
              refine tS 19 ?_; (try simp only [Act.put, lyA, lyB, lyC])
              refine sS 20 ?_; (try simp only [Act.put, lyA, lyB, lyC])
              refine sS 21 ?_; (try simp only [Act.put, lyA, lyB, lyC])
              refine sS 22 ?_; (try simp only [Act.put, lyA, lyB, lyC])
              refine sS 23 ?_; (try simp only [Act.put, lyA, lyB, lyC])
              refine sS 24 ?_; (try simp only [Act.put, lyA, lyB, lyC])
              refine sS 25 ?_; (try simp only [Act.put, lyA, lyB, lyC])
              refine sS 26 ?_; (try simp only [Act.put, lyA, lyB, lyC])
              refine sS 27 ?_; (try simp only [Act.put, lyA, lyB, lyC])
              refine sS 28 ?_; (try simp only [Act.put, lyA, lyB, lyC])
              refine sS 29 ?_; (try simp only [Act.put, lyA, lyB, lyC])
              refine tS 30 ?_; (try simp only [Act.put, lyA, lyB, lyC])
              refine tS 31 ?_; (try simp only [Act.put, lyA, lyB, lyC])
              have HH := HHd
              have HBx := HBy
              refine wpAnyH_done (by kernel_rfl) ?_ _; clear hHeld; go_upto_region 7 with fail; (iterate 60 (first | (refine shl_load1 HH.out rfl rfl rfl 0 rfl rfl (by decide +kernel) ?_) | at_builtin | go_step)); generalize hwA : World.alloc _ _ = w8; have HH8 := Lib.hid (HH.out.allocE hwA); clear hwA HH; refine shl_app (e := 35) (size := 3) (bytes := 64) (news := [.string key, .slice dA dn dc, .slice none 0 0]) (lo := w.heap.size) (.tmp 52) (.tmp 58) _ rfl rfl Tryz.underlying28 hi0 hz0 hz1 hz2 rfl (by omega) HH8.out 2 rfl rfl (m := 1) rfl rfl (HH8.out.boxRd 0 rfl) (by simp [Value.oneCell']) (by simp only [maxLen]; omega) (by omega) ?_; intro v9 w9 hh9 h9; obtain ⟨A9, c9, rfl⟩ := h9; have HH9 := Lib.hid hh9.tail.tail; clear hh9 HH8; go_wp2_with fail; go_roundw; (case rel => exact ⟨k + 1, g ++ [⟨key, ⟨dA, dn, dc, dx⟩, ⟨none, 0, 0, []⟩⟩], A9, c9, by omega, by omega, by rw [List.length_append, ← HGl.out, List.length_singleton]; omega, by go_num, by rw [List.length_append, ← HGl.out]; rfl, Lib.hid (HGn.out HLast.out), Lib.hid (by rw [List.length_append, List.flatMap_append, ← HGl.out]; exact HH9.out), Lib.hid (HGk.out HBx.out)⟩); (case measure => (first | (simp [intOf]; done) | (simp [intOf]; omega)))
            · obtain ⟨j, hj⟩ : ∃ j, gl = j + 1 := ⟨gl - 1, by omega⟩
              subst hj
              obtain ⟨b2, o2, rfl, f3⟩ := HRw.out _ HHd.out j (by omega)
              rw [Nat.add_sub_cancel] at HGn
              have hjn : (j : Int) < ((j : Int) + 1) := by omega
              have hs0 : IntKind.i64.wrap (j : Int) = (j : Int) := IntWalk.i64_in _ (by omega)
              clear HRw hz
              generalize ky g j = z at *
              cases hq : lessB z key
              · have hq2 : Op.bytesLess z.toList key.toList = false := hq
                have HBx := Lib.hid (show badG (⟨key, ⟨dA, dn, dc, dx⟩, ⟨qA, qn, qc, qx⟩⟩ : Ob) ∨ g ≠ [] from .inr fun h => by have := HGl.out; rw [h] at this; simp at this)
                clear HGn hq
                refine wp_region_held_drew (S := fun W => W.cell? ⟨xb, 0, none⟩ = some (.string key) ∧ W.cell? ⟨xb, 1, none⟩ = some (.slice dA dn dc) ∧ W.cell? ⟨b2, o2 + j * 3, none⟩ = some (.string z)) (by kernel_rfl) ⟨(HHd.out.boxAt 0 rfl).cell 0 _ rfl, (HHd.out.boxAt 0 rfl).cell 1 _ rfl, f3⟩ (fun hHeld => ?_); generalize World.drew wS = wd at *
                refine tS 0 ?_; (try simp only [Act.put, lyA, lyB, lyC])
                refine tS 1 ?_; (try simp only [Act.put, lyA, lyB, lyC])
                refine tS 2 ?_; (try simp only [Act.put, lyA, lyB, lyC])
                refine tS 3 ?_; (try simp only [Act.put, lyA, lyB, lyC])
                refine tS 4 ?_; (try simp only [Act.put, lyA, lyB, lyC])
                refine tS 5 ?_; (try simp only [Act.put, lyA, lyB, lyC])
                refine tS 6 ?_; (try simp only [Act.put, lyA, lyB, lyC])
                refine tS 7 ?_; (try simp only [Act.put, lyA, lyB, lyC])
                refine tS 8 ?_; (try simp only [Act.put, lyA, lyB, lyC])
                refine tS 9 ?_; (try simp only [Act.put, lyA, lyB, lyC])
                refine tS 10 ?_; (try simp only [Act.put, lyA, lyB, lyC])
                refine tS 11 ?_; (try simp only [Act.put, lyA, lyB, lyC])
                refine tS 12 ?_; (try simp only [Act.put, lyA, lyB, lyC])
                refine tS 13 ?_; (try simp only [Act.put, lyA, lyB, lyC])
                refine tS 14 ?_; (try simp only [Act.put, lyA, lyB, lyC])
                refine tS 15 ?_; (try simp only [Act.put, lyA, lyB, lyC])
                refine tS 16 ?_; (try simp only [Act.put, lyA, lyB, lyC])
                refine tS 17 ?_; (try simp only [Act.put, lyA, lyB, lyC])
                refine tS 18 ?_; (try simp only [Act.put, lyA, lyB, lyC])
                refine tS 19 ?_; (try simp only [Act.put, lyA, lyB, lyC])
                refine tS 20 ?_; (try simp only [Act.put, lyA, lyB, lyC])
                refine tS 21 ?_; (try simp only [Act.put, lyA, lyB, lyC])
                refine tS 22 ?_; (try simp only [Act.put, lyA, lyB, lyC])
                refine tS 23 ?_; (try simp only [Act.put, lyA, lyB, lyC])
                refine tS 24 ?_; (try simp only [Act.put, lyA, lyB, lyC])
                refine tS 25 ?_; (try simp only [Act.put, lyA, lyB, lyC])
                refine tS 26 ?_; (try simp only [Act.put, lyA, lyB, lyC])
                refine tS 27 ?_; (try simp only [Act.put, lyA, lyB, lyC])
                refine tS 28 ?_; (try simp only [Act.put, lyA, lyB, lyC])
                refine tS 29 ?_; (try simp only [Act.put, lyA, lyB, lyC])
                refine tS 30 ?_; (try simp only [Act.put, lyA, lyB, lyC])
                refine tS 31 ?_; (try simp only [Act.put, lyA, lyB, lyC])
                refine wpAnyH_done (by kernel_rfl) ?_ _; clear hHeld; go_wp2_with fail; go_roundw; (case rel => exact ⟨k + 1, g, _, c, by omega, by omega, by have := HGl.out; omega, by go_num, by rw [← HGl.out], HG, Lib.hid (by rw [← HGl.out]; exact HHd.out.tail), Lib.hid (HGs.out HBx.out)⟩); (case measure => (first | (simp [intOf]; done) | (simp [intOf]; omega)))
              · have hq2 : Op.bytesLess z.toList key.toList = true := hq
                have hlast : ¬ key.size = 0 ∧ ¬ 96 < key.size ∧ ¬ 300 < dn ∧ (j + 1 = 0 ∨ lessB z key = true) := ⟨h0, h96, h400, .inr hq⟩
                have HLast := Lib.hid hlast
                clear hlast hq
                refine wp_region_held_drew (S := fun W => W.cell? ⟨xb, 0, none⟩ = some (.string key) ∧ W.cell? ⟨xb, 1, none⟩ = some (.slice dA dn dc) ∧ W.cell? ⟨b2, o2 + j * 3, none⟩ = some (.string z)) (by kernel_rfl) ⟨(HHd.out.boxAt 0 rfl).cell 0 _ rfl, (HHd.out.boxAt 0 rfl).cell 1 _ rfl, f3⟩ (fun hHeld => ?_); generalize World.drew wS = wd at *
                refine tS 0 ?_; (try simp only [Act.put, lyA, lyB, lyC])
                refine tS 1 ?_; (try simp only [Act.put, lyA, lyB, lyC])
                refine tS 2 ?_; (try simp only [Act.put, lyA, lyB, lyC])
                refine tS 3 ?_; (try simp only [Act.put, lyA, lyB, lyC])
                refine tS 4 ?_; (try simp only [Act.put, lyA, lyB, lyC])
                refine tS 5 ?_; (try simp only [Act.put, lyA, lyB, lyC])
                refine tS 6 ?_; (try simp only [Act.put, lyA, lyB, lyC])
                refine tS 7 ?_; (try simp only [Act.put, lyA, lyB, lyC])
                refine tS 8 ?_; (try simp only [Act.put, lyA, lyB, lyC])
                refine tS 9 ?_; (try simp only [Act.put, lyA, lyB, lyC])
                refine tS 10 ?_; (try simp only [Act.put, lyA, lyB, lyC])
                refine tS 11 ?_; (try simp only [Act.put, lyA, lyB, lyC])
                refine tS 12 ?_; (try simp only [Act.put, lyA, lyB, lyC])
                refine tS 13 ?_; (try simp only [Act.put, lyA, lyB, lyC])
                refine tS 14 ?_; (try simp only [Act.put, lyA, lyB, lyC])
                refine tS 15 ?_; (try simp only [Act.put, lyA, lyB, lyC])
                refine tS 16 ?_; (try simp only [Act.put, lyA, lyB, lyC])
                refine tS 17 ?_; (try simp only [Act.put, lyA, lyB, lyC])
                refine tS 18 ?_; (try simp only [Act.put, lyA, lyB, lyC])
                refine tS 19 ?_; (try simp only [Act.put, lyA, lyB, lyC])
                refine tS 20 ?_; (try simp only [Act.put, lyA, lyB, lyC])
                refine tS 21 ?_; (try simp only [Act.put, lyA, lyB, lyC])
                refine tS 22 ?_; (try simp only [Act.put, lyA, lyB, lyC])
                refine tS 23 ?_; (try simp only [Act.put, lyA, lyB, lyC])
                refine tS 24 ?_; (try simp only [Act.put, lyA, lyB, lyC])
                refine tS 25 ?_; (try simp only [Act.put, lyA, lyB, lyC])
                refine tS 26 ?_; (try simp only [Act.put, lyA, lyB, lyC])
                refine tS 27 ?_; (try simp only [Act.put, lyA, lyB, lyC])
                refine tS 28 ?_; (try simp only [Act.put, lyA, lyB, lyC])
                refine tS 29 ?_; (try simp only [Act.put, lyA, lyB, lyC])
                refine tS 30 ?_; (try simp only [Act.put, lyA, lyB, lyC])
                refine tS 31 ?_; (try simp only [Act.put, lyA, lyB, lyC])
                have HH := HHd
                have HBx := HBy
                refine wpAnyH_done (by kernel_rfl) ?_ _; clear hHeld; go_upto_region 7 with fail; (iterate 60 (first | (refine shl_load1 HH.out rfl rfl rfl 0 rfl rfl (by decide +kernel) ?_) | at_builtin | go_step)); generalize hwA : World.alloc _ _ = w8; have HH8 := Lib.hid (HH.out.allocE hwA); clear hwA HH; refine shl_app (e := 35) (size := 3) (bytes := 64) (news := [.string key, .slice dA dn dc, .slice none 0 0]) (lo := w.heap.size) (.tmp 52) (.tmp 58) _ rfl rfl Tryz.underlying28 hi0 hz0 hz1 hz2 rfl (by omega) HH8.out 2 rfl rfl (m := 1) rfl rfl (HH8.out.boxRd 0 rfl) (by simp [Value.oneCell']) (by simp only [maxLen]; omega) (by omega) ?_; intro v9 w9 hh9 h9; obtain ⟨A9, c9, rfl⟩ := h9; have HH9 := Lib.hid hh9.tail.tail; clear hh9 HH8; go_wp2_with fail; go_roundw; (case rel => exact ⟨k + 1, g ++ [⟨key, ⟨dA, dn, dc, dx⟩, ⟨none, 0, 0, []⟩⟩], A9, c9, by omega, by omega, by rw [List.length_append, ← HGl.out, List.length_singleton]; omega, by go_num, by rw [List.length_append, ← HGl.out]; rfl, Lib.hid (HGn.out HLast.out), Lib.hid (by rw [List.length_append, List.flatMap_append, ← HGl.out]; exact HH9.out), Lib.hid (HGk.out HBx.out)⟩); (case measure => (first | (simp [intOf]; done) | (simp [intOf]; omega)))
    · have HE6 := Lib.hid (show xs.take 6 = xs.take k by
        by_cases h6 : k = 6
        · rw [h6]
        · have hkn : k = n := by omega
          rw [List.take_of_length_le (l := xs) (by rw [← Hn.out]; omega), List.take_of_length_le (l := xs) (by rw [← Hn.out]; omega)])
      have hfin := Lib.hid (show ∃ g' : Sl Ob, Value.slice A g.length c = g'.val ∧ Gd 300 g'.xs ∧ (g'.xs = [] ↔ ∀ x ∈ xs.take 6, badG x) ∧ Sl.At wr 0 wr.heap.size Ob.cells (Ob.At wr 0 wr.heap.size) g' from
        ⟨⟨A, g.length, c, g⟩, rfl, HG.out.1, (by rw [HE6.out]; exact HE0.out), ⟨rfl, (own_form2 (HH.out.rowAt 0 rfl)).1, (own_form2 (HH.out.rowAt 0 rfl)).2, (HH.out.rowRd 0 rfl).m0, fun x hx => Ob.At.on (HG.out.2 x hx) HH.out.ext (Nat.le_refl _)⟩⟩)
      have HE := Lib.hid HH.out.ext
      by_cases h1 : k < n
      · have q7 : decide ((k : Int) < (n : Int)) = true := by simp; omega
        have q6 : decide ((k : Int) < 6) = false := by simp; omega
        have h6 : ¬ k < 6 := fun h => hlt ⟨h1, h⟩
        clear hlt
        go_wp2_with fail
        go_ret
        obtain ⟨g', e, h1, h3, h2⟩ := hfin.out
        exact ⟨g', congrArg Ending.returned e, h1, h3, h2, HE.out⟩
      · have q7 : decide ((k : Int) < (n : Int)) = false := by simp; omega
        clear hlt
        go_wp2_with fail
        go_ret
        obtain ⟨g', e, h1, h3, h2⟩ := hfin.out
        exact ⟨g', congrArg Ending.returned e, h1, h3, h2, HE.out⟩
end Go.Proofs.YtfongpdeflfioaaGreat
