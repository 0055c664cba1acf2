/- The texts Sfi, Bulk, OpenB in one file. -/
import Derived.Test.YtfongpdeflfioaaGreatS26
import Derived.Test.YtfongpdeflfioaaGreatS28
import Derived.Test.YtfongpdeflfioaaGreatS29
import Derived.Test.YtfongpdeflfioaaGreatRows
import Derived.Test.YtfongpdeflfioaaGreatS5
import Derived.Test.YtfongpdeflfioaaGreatS2
/- A store one octet of which was changed on its device; godownlaw40.ScrubFinds: the law's walk. -/
namespace Go.Proofs.YtfongpdeflfioaaGreat
open Go.RowKit Go.Maps Go.Sort Go.Shelf
set_option linter.unusedVariables false
set_option linter.unusedSimpArgs false
theorem used_page {a : Abs} (ha : a.holds) {y : Int} (hy : y ∈ a.used) : ∃ (p : List UInt8) (nx : Nat), p.length ≤ 52 ∧ nx < 8192 ∧ a.S[y.toNat]? = some (pgB p (nx : Int)) := by
  rcases List.mem_append.1 hy with h | h
  · obtain ⟨k, hk, rfl⟩ := List.getElem_of_mem h
    obtain ⟨q, nx, p, h1, _, _, h4, _, h6, h7⟩ := holds_page ha k hk
    exact ⟨p, nx, h6, h4, by rw [h1]; exact h7⟩
  · obtain ⟨o, ho, h⟩ := List.mem_flatMap.1 h
    obtain ⟨k, hk, rfl⟩ := List.getElem_of_mem h
    exact ⟨partO o.2.1 k, 0, partO_len _ _, by decide, ha.objs o ho k hk⟩
theorem hz_changed {s s' : Sto} (ha : s.abs.holds) (q o : Nat) (v : UInt8) (b : List UInt8) (hq : 2 ≤ q) (hb : s.abs.S[q]? = some b) (ho : o < b.length) (hv : v ≠ b[o])
    (hS : s'.abs.S = s.abs.S.set q (b.set o v)) (hO : s'.abs.O = s.abs.O) (hX : s'.abs.X = s.abs.X) (hu : s'.abs.u = s.abs.u) (hw : s'.dev.waits.n = 0) : Hz s' s.abs (q : Int) ∧ ((q : Int) ∉ s.abs.used → s'.abs.holds) := by
  have hl : s'.abs.S.length = s.abs.S.length := by rw [hS, List.length_set]
  have hU : s'.abs.used = s.abs.used := by rw [Abs.used, Abs.used, hO, hX]
  have hql : q < s.abs.S.length := (List.getElem?_eq_some_iff.1 hb).1
  have hne : ∀ y : Nat, y ≠ q → s'.abs.S[y]? = s.abs.S[y]? := fun y hy => by rw [hS, List.getElem?_set_ne (Ne.symm hy)]
  have hk := ha.ok
  have hok : s'.abs.ok := by
    refine ⟨by rw [hl]; exact hk.n2, by rw [hl]; exact hk.n8, fun x hx => ?_, by rw [hu]; exact hk.ub, by rw [hO]; exact hk.cnt, by rw [hO, hu]; exact hk.cu, by rw [hO]; exact hk.ris, by rw [hO]; exact hk.fit, by rw [hU, hl]; exact hk.lo, by rw [hU]; exact hk.nd, by rw [hO]; exact hk.wE0, by rw [hO, hX]; exact hk.xl, by rw [hO, hX]; exact hk.xn⟩
    rw [hS] at hx
    rcases List.mem_or_eq_of_mem_set hx with h | h
    · exact hk.s64 x h
    · rw [h, List.length_set]
      exact hk.s64 b (List.mem_of_getElem? hb)
  refine ⟨⟨hok, hw, ha, hO, hX, fun y hy => hne y (by omega), fun b' hb' hz => ?_⟩, fun hn => ?_⟩
  · rw [Int.toNat_natCast, hS, List.getElem?_set_self hql] at hb'
    obtain ⟨p, nx, h1, h2, h3⟩ := used_page ha hz
    rw [Int.toNat_natCast, hb] at h3
    have e := Option.some.inj h3
    subst e
    rw [← Option.some.inj hb']
    exact page_changed p nx h1 h2 o v ho hv
  · have hnu : ∀ y ∈ s.abs.used, s'.abs.S[y.toNat]? = s.abs.S[y.toNat]? := fun y hy => hne _ fun e => hn (by
      have := hk.lo y hy
      rw [show (q : Int) = y by omega]; exact hy)
    obtain ⟨x, y, u1, u2, u3, u4, u5, u6, u7, u8, u9⟩ := ha.ubs
    refine ⟨hok, ⟨x, y, u1, u2, u3, u4, u5, u6, by rw [hne 0 (by omega)]; exact u7, by rw [hne 1 (by omega)]; exact u8, by rw [hu]; exact u9⟩, by rw [hu, hX]; exact ha.first, ?_, ?_⟩
    · have h := ha.chain
      rw [hX, hO]
      intro k hk
      rw [hnu _ (List.mem_append_left _ (List.getElem_mem hk))]
      exact h k hk
    · have h := ha.objs
      rw [hO]
      intro o ho k hk
      rw [hnu _ (List.mem_append_right _ (List.mem_flatMap.2 ⟨o, ho, List.getElem_mem hk⟩))]
      exact h o ho k hk
theorem set_split {α : Type} (l : List α) (k : Nat) (x : α) (h : k < l.length) : l.set k x = l.take k ++ [x] ++ l.drop (k + 1) := by
  rw [List.set_eq_take_append_cons_drop, if_pos h]; simp
set_option maxRecDepth 100000 in
set_option maxHeartbeats 8000000 in
theorem sfinds_any (w : World) (n at0 oc0 : Int) (y : UInt8) (a : Sl Ob) (hn : (Lit.int .i64 n).wf = true) (h1 : (Lit.int .i64 at0).wf = true) (h2 : (Lit.int .i64 oc0).wf = true) (ha : Sl.At w 0 w.heap.size Ob.cells (Ob.At w 0 w.heap.size) a) :
    Calls Tryz.prog 8 #[.int .i64 n, a.val, .int .i64 at0, .int .i64 oc0, .int .u8 (y.toNat : Int)] w fun e w' => e = .returned (.bool true) ∧ Ext w w' := by
  have HGa := Lib.hid (fun W (hW : Ext w W) => good40_any W a (Sl.At.imp ha (rd_on hW (Nat.le_refl _) _ _) (fun x hx => Ob.At.on hx hW (Nat.le_refl _))))
  have HMd := Lib.hid (fun W (hW : Ext w W) => made_any W n a a hn (Sl.At.imp ha (rd_on hW (Nat.le_refl _) _ _) (fun x hx => Ob.At.on hx hW (Nat.le_refl _))) (Sl.At.imp ha (rd_on hW (Nat.le_refl _) _ _) (fun x hx => Ob.At.on hx hW (Nat.le_refl _))))
  have hb1 : -9223372036854775808 ≤ at0 ∧ at0 ≤ 9223372036854775807 := by
    simp only [Lit.wf, Bool.and_eq_true, decide_eq_true_eq] at h1
    exact h1
  have hb2 : -9223372036854775808 ≤ oc0 ∧ oc0 ≤ 9223372036854775807 := by
    simp only [Lit.wf, Bool.and_eq_true, decide_eq_true_eq] at h2
    exact h2
  clear ha hn h1 h2
  obtain ⟨aA, an, ac, ax⟩ := a
  simp only [Sl.val] at *
  go_enter Tryz.func8, Tryz.ntmps8
  have HH := Lib.hid (Heap.start w)
  go_upto_region 3 with (go_at_call 15; (with_reducible refine (alive40_any _).mono ?_); rintro e wC ⟨rfl, eC⟩; have HHn := Lib.hid (HH.out.later eC); clear HH eC; have HH := HHn; clear HHn)
  go_wp2_with fail
  refine (HMd.out _ HH.out.ext).mono ?_
  rintro e w1 ⟨s, ok, rfl, hok, hno, hS, e1⟩
  have HE1 := Lib.hid (HH.out.ext.trans e1)
  have HOk := Lib.hid hok
  have HNo := Lib.hid hno
  have HS := Lib.hid (fun (W : World) (hW : Ext w1 W) => show Sto.At W 0 W.heap.size s from hS.on hW (Nat.le_refl _))
  clear HH HMd hS e1 hok hno
  have HH := Lib.hid (Heap.start w1)
  simp only [Sto.cells, Dev.cells, Sl.val]
  go_upto_region 4 with (refine shl_store (HH.out.alloc _ _) sizeSto rfl rfl rfl rfl 0 rfl rfl rfl rfl ?_; clear HH; intro wS HHS; have HH := Lib.hid HHS; clear HHS)
  obtain ⟨s11, hs11⟩ : ∃ b, b = w1.heap.size := ⟨_, rfl⟩
  rw [← hs11] at HH ⊢
  clear hs11
  have HH2 := Lib.hid (show Heap w1 [.box s11 [.slice s.dev.secs.A s.dev.secs.n s.dev.secs.c, .slice s.dev.waits.A s.dev.waits.n s.dev.waits.c, .int .i64 s.ub.txg, .int .i64 s.ub.first, .int .i64 s.ub.objs, .slice s.objs.A s.objs.n s.objs.c, .slice s.idx.A s.idx.n s.idx.c]] wS from HH.out)
  clear HH
  have HH := HH2
  clear HH2
  by_cases hy0 : y = 0
  · have q0 : (((y.toNat : Nat) : Int) == 0) = true := by rw [hy0]; rfl
    cases ok with
    | false =>
      go_wp2_with fail
      go_ret
      exact ⟨rfl, HE1.out.trans HH.out.ext⟩
    | true =>
      go_wp2_with fail
      go_ret
      exact ⟨rfl, HE1.out.trans HH.out.ext⟩
  · have q0 : (((y.toNat : Nat) : Int) == 0) = false := by
      rw [beq_eq_false_iff_ne]
      intro e
      exact hy0 (UInt8.toNat_inj.1 (by show y.toNat = 0; omega))
    cases ok with
    | false =>
      go_wp2_with fail
      refine (HGa.out _ (HE1.out.trans HH.out.ext)).mono ?_
      rintro e w2 ⟨g, rfl, _, hge, hgA, e2⟩
      have hg0 : 0 < g.n := by
        rcases Nat.eq_zero_or_pos g.n with h | h
        · exact absurd (hge.1 (List.eq_nil_of_length_eq_zero (by rw [← hgA.len]; exact h))) (HNo.out (by simp))
        · exact h
      have hg1 : (0 : Int) < (g.n : Int) := by omega
      have hg2 : decide (0 < g.n) = true := decide_eq_true hg0
      have HE2 := Lib.hid (HE1.out.trans (HH.out.ext.trans e2))
      clear hge hgA HNo HOk HH e2 hg0
      simp only [Sl.val]
      go_wp2_with fail
      go_ret
      exact ⟨rfl, HE2.out⟩
    | true =>
      obtain ⟨hho, hwt, h40⟩ := HOk.out rfl
      have HHo := Lib.hid hho
      have HWt := Lib.hid hwt
      have hNl : s.abs.S.length = s.dev.secs.n := secv_len (HS.out _ (Ext.refl _))
      have hn8 := hho.ok.n8
      rw [hNl] at h40 hn8
      have HCr := Lib.hid (fun (W : World) (hW : Ext w1 W) => crash_own s.dev W (HS.out W hW).dev (all64 (HS.out W hW).dev hho.ok.s64 hwt (by omega) hn8) hwt)
      have HSl := Lib.hid (show s.dev.secs.n = s.dev.secs.xs.length from (HS.out _ (Ext.refl _)).dev.secs.len)
      obtain ⟨N, hN⟩ : ∃ N, N = s.dev.secs.n := ⟨_, rfl⟩
      have HN := Lib.hid hN
      have g0 := (HH.out.boxAt 0 rfl).cell 0 _ rfl
      have g1 := (HH.out.boxAt 0 rfl).cell 1 _ rfl
      simp only [Dev.cells, Sl.val] at HCr
      rw [← hN] at g0 h40 hn8 HCr
      clear hho hwt hNl HOk HNo HGa hN
      have t1 := Int.tmod_lt_of_pos at0 (show (0 : Int) < (N : Int) - 2 by omega)
      have t2 := Int.lt_tmod_of_pos at0 (show (0 : Int) < (N : Int) - 2 by omega)
      have t3 : oc0.tmod 64 < 64 := Int.tmod_lt_of_pos oc0 (by decide)
      have t4 : -64 < oc0.tmod 64 := Int.lt_tmod_of_pos oc0 (by decide)
      go_upto_region 9 with fail
      obtain ⟨q, hq, hq2, hqN⟩ : ∃ q : Nat, wrap64 (2 + (at0.tmod ((N : Int) - 2) + (N : Int) - 2) % ((N : Int) - 2)) = (q : Int) ∧ 2 ≤ q ∧ q < N := by
        have m1 := Int.emod_nonneg (at0.tmod ((N : Int) - 2) + (N : Int) - 2) (show (N : Int) - 2 ≠ 0 by omega)
        have m2 := Int.emod_lt_of_pos (at0.tmod ((N : Int) - 2) + (N : Int) - 2) (show (0 : Int) < (N : Int) - 2 by omega)
        refine ⟨(2 + (at0.tmod ((N : Int) - 2) + (N : Int) - 2) % ((N : Int) - 2)).toNat, ?_, by omega, by omega⟩
        rw [IntWalk.wrap64_in _ (by omega)]
        omega
      rw [hq]
      obtain ⟨o, ho, ho64⟩ : ∃ o : Nat, (oc0.tmod 64 + 64) % 64 = (o : Int) ∧ o < 64 := ⟨((oc0.tmod 64 + 64) % 64).toNat, by omega, by omega⟩
      rw [ho]
      clear t1 t2 t3 t4 hq ho hb1 hb2
      go_wp2_with fail
      clear g0 g1
      refine (HCr.out _ HH.out.ext).mono ?_
      rintro e w2 ⟨⟨⟨dA, dn, dc, dx⟩, dw⟩, rfl, hv, hn', hown⟩
      obtain rfl : dw = ⟨none, 0, 0, []⟩ := hown.waits
      obtain rfl : dn = N := hn'
      have HV := Lib.hid (show dx.map (fun o => o.xs) = s.abs.S from hv)
      have HDn := Lib.hid (⟨hown.len, hown.n⟩ : (∀ s ∈ dx, s.n = s.xs.length) ∧ dn = dx.length)
      have HH2 := Lib.hid (show Heap w1 (.box s11 [.slice s.dev.secs.A s.dev.secs.n s.dev.secs.c, .slice s.dev.waits.A s.dev.waits.n s.dev.waits.c, .int .i64 s.ub.txg, .int .i64 s.ub.first, .int .i64 s.ub.objs, .slice s.objs.A s.objs.n s.objs.c, .slice s.idx.A s.idx.n s.idx.c] :: rowIt dn dA dc (dx.flatMap octv) :: dx.map secIt) w2 from HH.out.joinR hown.heap)
      clear HH hown hv HCr
      have HH := HH2
      clear HH2
      simp only [Dev.cells, Sl.val]
      go_upto_region 10 with (refine shl_store (HH.out.alloc _ _) sizeDv rfl rfl rfl rfl 0 rfl rfl rfl rfl ?_; clear HH; intro wS HHS; have HH := Lib.hid HHS; clear HHS)
      obtain ⟨d14, hd14⟩ : ∃ b, b = w2.heap.size := ⟨_, rfl⟩
      rw [← hd14] at HH ⊢
      clear hd14
      have HH2 := Lib.hid (show Heap w1 (.box d14 [.slice dA dn dc, .slice none 0 0] :: .box s11 [.slice s.dev.secs.A s.dev.secs.n s.dev.secs.c, .slice s.dev.waits.A s.dev.waits.n s.dev.waits.c, .int .i64 s.ub.txg, .int .i64 s.ub.first, .int .i64 s.ub.objs, .slice s.objs.A s.objs.n s.objs.c, .slice s.idx.A s.idx.n s.idx.c] :: rowIt dn dA dc (dx.flatMap octv) :: dx.map secIt) wS from HH.out)
      clear HH
      have HH := HH2
      clear HH2
      obtain ⟨rk, rc, hrow⟩ := HH.out.rowForm 2 rfl (by omega)
      obtain ⟨rfl, rfl⟩ : dA = some ⟨rk, 0, none⟩ ∧ dc = rc := by simpa using hrow
      have hql : q < dx.length := by rw [← HDn.out.2]; exact hqN
      obtain ⟨b1, o1, hA1, _, _, G0⟩ := rd_flat (size := 1) (fun _ => rfl) (by omega) (HH.out.rowRd 2 rfl) hql
      obtain ⟨rfl, rfl⟩ : rk = b1 ∧ 0 = o1 := by simpa using hA1
      have f0 := G0 0 _ rfl
      have HSq := Lib.hid (show s.abs.S[q]? = some (dx[q]).xs by rw [← HV.out, List.getElem?_map, List.getElem?_eq_getElem hql]; rfl)
      have hx64 : (dx[q]).xs.length = 64 := HHo.out.ok.s64 _ (List.mem_of_getElem? HSq.out)
      have hxn : (dx[q]).n = 64 := by rw [HDn.out.1 _ (List.getElem_mem hql)]; exact hx64
      have HDq := Lib.hid (show (dx.map secIt)[q]? = some (secIt dx[q]) by simp [hql])
      have HSet := Lib.hid (fun (x' : Oct) (hx : x'.val = (dx[q]).val) => show (dx.set q x').flatMap octv = dx.flatMap octv by
        apply List.ext_getElem?
        intro j
        have e : ∀ (l : List Oct), (l.flatMap octv)[j]? = l[j]?.map Sl.val := fun l => by
          rw [show l.flatMap octv = l.map Sl.val from by induction l with | nil => rfl | cons z l ih => rw [List.flatMap_cons, ih]; rfl]
          rw [List.getElem?_map]
        rw [e, e, List.getElem?_set]
        by_cases hj : q = j
        · subst hj
          simp [hql, hx]
        · simp [hj])
      have HXm := Lib.hid (fun (x' : Oct) (s' : Oct) (h : s' ∈ dx.set q x') => show s' ∈ dx ∨ s' = x' from List.mem_or_eq_of_mem_set h)
      generalize dx[q] = x at *
      obtain ⟨xA, xn, xc, xx⟩ := x
      dsimp only at hx64 hxn HSq
      obtain rfl : xn = 64 := hxn
      have hit : (.box d14 [.slice (some ⟨rk, 0, none⟩) dn dc, .slice none 0 0] :: .box s11 [.slice s.dev.secs.A s.dev.secs.n s.dev.secs.c, .slice s.dev.waits.A s.dev.waits.n s.dev.waits.c, .int .i64 s.ub.txg, .int .i64 s.ub.first, .int .i64 s.ub.objs, .slice s.objs.A s.objs.n s.objs.c, .slice s.idx.A s.idx.n s.idx.c] :: rowIt dn (some ⟨rk, 0, none⟩) dc (dx.flatMap octv) :: dx.map secIt : List It)[q + 3]? = some (.row 5 1 (.slice xA 64 xc) 64 (bytes xx)) := HDq.out
      obtain ⟨gb, gc, hrow2⟩ := HH.out.rowForm (q + 3) hit (by decide)
      obtain ⟨rfl, rfl⟩ : xA = some ⟨gb, 0, none⟩ ∧ xc = gc := by simpa using hrow2
      have hol : o < xx.length := by rw [hx64]; exact ho64
      have f1 : wS.cell? ⟨gb, o, none⟩ = some (.int .u8 ((xx[o]).toNat : Int)) := ((HH.out.rowAt (q + 3) hit).cellAt o (by omega)).trans (by rw [bytes, List.getElem?_map, List.getElem?_eq_getElem hol]; rfl)
      have HIt := Lib.hid hit
      have HV8 := Lib.hid (show xx[o] ^^^ y ≠ xx[o] from xor_ne _ _ hy0)
      have HBt := Lib.hid (bits_xor8 (xx[o]) y)
      have HOl := Lib.hid hol
      simp only [Sl.val, Nat.zero_add, Nat.mul_one, Nat.add_zero] at f0
      clear hit hrow hrow2 hA1 G0
      generalize hz : xx[o] = z at *
      have HZo := Lib.hid hz
      clear hz hol
      have HHd := Lib.hid HH.out.drew
      clear HH
      refine rgnE (S := fun W => W.cell? ⟨d14, 0, none⟩ = some (.slice (some ⟨rk, 0, none⟩) dn dc) ∧ W.cell? ⟨rk, q, none⟩ = some (.slice (some ⟨gb, 0, none⟩) 64 xc) ∧ W.cell? ⟨gb, o, none⟩ = some (.int .u8 (z.toNat : Int))) (by kernel_rfl) ?_ (fun hHeld => ?_)
      · exact ⟨(HHd.out.boxAt 0 rfl).cell 0 _ rfl, f0, f1⟩
      clear f0 f1
      generalize World.drew wS = wd at *
      have hqn : (q : Int) < (dn : Int) := by omega
      have ho6 : (o : Int) < 64 := by omega
      refine eS 0 ?_; (try simp only [Act.put, lyA, lyB, lyC])
      refine eS 1 ?_; (try simp only [Act.put, lyA, lyB, lyC])
      refine eS 2 ?_; (try simp only [Act.put, lyA, lyB, lyC])
      refine eS 3 ?_; (try simp only [Act.put, lyA, lyB, lyC])
      refine eS 4 ?_; (try simp only [Act.put, lyA, lyB, lyC])
      refine eS 5 ?_; (try simp only [Act.put, lyA, lyB, lyC])
      refine eS 6 ?_; (try simp only [Act.put, lyA, lyB, lyC])
      refine eS 7 ?_; (try simp only [Act.put, lyA, lyB, lyC])
      refine eS 8 ?_; (try simp only [Act.put, lyA, lyB, lyC])
      refine eS 9 ?_; (try simp only [Act.put, lyA, lyB, lyC])
      refine eS 10 ?_; (try simp only [Act.put, lyA, lyB, lyC])
      refine eS 11 ?_; (try simp only [Act.put, lyA, lyB, lyC])
      refine eS 12 ?_; (try simp only [Act.put, lyA, lyB, lyC])
      refine eS 13 ?_; (try simp only [Act.put, lyA, lyB, lyC])
      refine eS 14 ?_; (try simp only [Act.put, lyA, lyB, lyC])
      refine eS 15 ?_; (try simp only [Act.put, lyA, lyB, lyC])
      refine eS 16 ?_; (try simp only [Act.put, lyA, lyB, lyC])
      refine lastE 17 rfl (by kernel_rfl) (by kernel_rfl) (by kernel_rfl) (by kernel_rfl) (fun K hK => ?_)
      refine sh_rstore1 (v := .int .u8 (bits BinOp.xor IntKind.u8 (z.toNat : Int) (y.toNat : Int))) HHd.out rfl rfl rfl (q + 3) HIt.out (by omega) rfl (by kernel_rfl) ?_
      intro w5 hh5
      obtain ⟨x', hx'⟩ : ∃ x' : Oct, x' = ⟨some ⟨gb, 0, none⟩, 64, xc, xx.set o (z ^^^ y)⟩ := ⟨_, rfl⟩
      have HHn := Lib.hid (show Heap w1 (.box d14 [.slice (some ⟨rk, 0, none⟩) dn dc, .slice none 0 0] :: .box s11 [.slice s.dev.secs.A s.dev.secs.n s.dev.secs.c, .slice s.dev.waits.A s.dev.waits.n s.dev.waits.c, .int .i64 s.ub.txg, .int .i64 s.ub.first, .int .i64 s.ub.objs, .slice s.objs.A s.objs.n s.objs.c, .slice s.idx.A s.idx.n s.idx.c] :: rowIt dn (some ⟨rk, 0, none⟩) dc ((dx.set q x').flatMap octv) :: (dx.set q x').map secIt) w5 by
        rw [HSet.out x' (by rw [hx']; rfl), List.map_set]
        have h := hh5
        rw [HBt.out] at h
        have e : (bytes xx).take o ++ [Value.int .u8 ((z ^^^ y).toNat : Int)] ++ (bytes xx).drop (o + 1) = bytes (xx.set o (z ^^^ y)) := by
          rw [bytes_set, set_split _ _ _ (by rw [bytes_length]; exact HOl.out)]
        rw [e] at h
        rw [hx']
        exact h)
      have HVn := Lib.hid (show (dx.set q x').map (fun o => o.xs) = s.abs.S.set q (xx.set o (z ^^^ y)) by rw [List.map_set, HV.out, hx'])
      have HLn := Lib.hid (show (∀ s ∈ dx.set q x', s.n = s.xs.length) ∧ dn = (dx.set q x').length from ⟨fun s' hs' => by
        rcases HXm.out x' s' hs' with h | h
        · exact HDn.out.1 s' h
        · rw [h, hx']
          show 64 = (xx.set o (z ^^^ y)).length
          rw [List.length_set, hx64], by rw [List.length_set]; exact HDn.out.2⟩)
      generalize dx.set q x' = dx' at *
      clear hh5 hx' HHd HBt HIt HXm HSet HDq HDn HV
      refine hK.out _ _ ?_; clear hK K; (try simp only [Act.put, lyA, lyB, lyC])
      have HZ := Lib.hid (hz_changed (s' := (⟨⟨⟨some ⟨rk, 0, none⟩, dn, dc, dx'⟩, ⟨none, 0, 0, []⟩⟩, s.ub, s.objs, s.idx⟩ : Sto)) HHo.out q o (z ^^^ y) xx hq2 HSq.out (by rw [hx64]; exact ho64) (fun e => HV8.out (e.trans HZo.out)) HVn.out rfl rfl rfl rfl)
      have HSA := Lib.hid (fun (W : World) (x1 x2 : It) (hH : Heap w1 (x1 :: x2 :: rowIt dn (some ⟨rk, 0, none⟩) dc (dx'.flatMap octv) :: dx'.map secIt) W) => show Sto.At W 0 W.heap.size (⟨⟨⟨some ⟨rk, 0, none⟩, dn, dc, dx'⟩, ⟨none, 0, 0, []⟩⟩, s.ub, s.objs, s.idx⟩ : Sto) from by
        have h0 := HS.out W hH.ext
        have hr := own_form2 (hH.rowAt 2 rfl)
        refine ⟨⟨⟨HLn.out.2, hr.1, hr.2, (hH.rowRd 2 rfl).m0, fun u hu => ?_⟩, ⟨rfl, Nat.le_refl _, Nat.zero_le _, Rd.nil, fun _ hh => by cases hh⟩⟩, h0.ub, h0.objs, h0.idx⟩
        obtain ⟨j, hj, rfl⟩ := List.getElem_of_mem hu
        have hij : (x1 :: x2 :: rowIt dn (some ⟨rk, 0, none⟩) dc (dx'.flatMap octv) :: dx'.map secIt : List It)[j + 3]? = some (.row 5 1 (.slice (dx'[j]).A (dx'[j]).n (dx'[j]).c) (dx'[j]).n (bytes (dx'[j]).xs)) := by simp [hj, secIt]
        have h2 := own_form2 (hH.rowAt (j + 3) hij)
        exact ⟨HLn.out.1 _ hu, h2.1, h2.2, by rw [octs_flat]; exact (hH.rowRd (j + 3) hij).m0, fun _ _ => trivial⟩)
      clear HVn HLn HV8 HZo HOl HSq hx64 hqn ho6 ho64
      have HH := HHn
      clear HHn
      go_upto_region 12 with (first | (refine shl_load HH.out sizeDv (by kernel_rfl) rfl rfl rfl 0 rfl rfl ?_) | (refine shl_store HH.out sizeDv rfl rfl rfl rfl 1 rfl rfl rfl rfl ?_; clear HH; intro wS HHS; have HH := Lib.hid HHS; clear HHS))
      have HH2 := Lib.hid (show Heap w1 (.box d14 [.slice (some ⟨rk, 0, none⟩) dn dc, .slice none 0 0] :: .box s11 [.slice (some ⟨rk, 0, none⟩) dn dc, .slice none 0 0, .int .i64 s.ub.txg, .int .i64 s.ub.first, .int .i64 s.ub.objs, .slice s.objs.A s.objs.n s.objs.c, .slice s.idx.A s.idx.n s.idx.c] :: rowIt dn (some ⟨rk, 0, none⟩) dc (dx'.flatMap octv) :: dx'.map secIt) wS from HH.out)
      clear HH
      have HH := HH2
      clear HH2
      by_cases hu : (q : Int) ∈ s.abs.used
      · have hbd : bdL s.abs (q : Int) = [(q : Int)] := if_pos hu
        have HLk := Lib.hid (fun (W : World) (hW : Sto.At W 0 W.heap.size (⟨⟨⟨some ⟨rk, 0, none⟩, dn, dc, dx'⟩, ⟨none, 0, 0, []⟩⟩, s.ub, s.objs, s.idx⟩ : Sto)) => show Calls Tryz.prog 12 #[.agg #[.slice (some ⟨rk, 0, none⟩) dn dc, .slice none 0 0, .int .i64 s.ub.txg, .int .i64 s.ub.first, .int .i64 s.ub.objs, .slice s.objs.A s.objs.n s.objs.c, .slice s.idx.A s.idx.n s.idx.c]] W (fun e w' => ∃ (A : Option Addr) (c : Nat) (g1 g2 g3 : Int), e = .returned (.tuple #[.agg #[.int .i64 g1, .slice A 1 c, .int .i64 g2, .int .i64 g3], .int .i64 0]) ∧ w'.ownsRow W.heap.size 3 1 (.slice A 1 c) 1 (ints [(q : Int)]) ∧ Ext W w') from by
          refine (look_held W (⟨⟨⟨some ⟨rk, 0, none⟩, dn, dc, dx'⟩, ⟨none, 0, 0, []⟩⟩, s.ub, s.objs, s.idx⟩ : Sto) s.abs (q : Int) hW HZ.out.1).mono ?_
          rintro e w' ⟨A, c, st, fl, rfl, _, _, h3, ee⟩
          rw [hbd] at h3 ⊢
          exact ⟨A, c, _, _, _, rfl, h3, ee⟩)
        have HSn := Lib.hid (fun (W : World) (hW : Sto.At W 0 W.heap.size (⟨⟨⟨some ⟨rk, 0, none⟩, dn, dc, dx'⟩, ⟨none, 0, 0, []⟩⟩, s.ub, s.objs, s.idx⟩ : Sto)) => show Calls Tryz.prog 14 #[.agg #[.slice (some ⟨rk, 0, none⟩) dn dc, .slice none 0 0, .int .i64 s.ub.txg, .int .i64 s.ub.first, .int .i64 s.ub.objs, .slice s.objs.A s.objs.n s.objs.c, .slice s.idx.A s.idx.n s.idx.c]] W (fun e w' => e = .returned (.bool false) ∧ Ext W w') from by
          have h := sound_z W (⟨⟨⟨some ⟨rk, 0, none⟩, dn, dc, dx'⟩, ⟨none, 0, 0, []⟩⟩, s.ub, s.objs, s.idx⟩ : Sto) s.abs (q : Int) hW HZ.out.1 HZ.out.2
          rw [show decide ((q : Int) ∉ s.abs.used) = false from decide_eq_false fun h => h hu] at h
          exact h)
        have HMm := Lib.hid (show decide ((q : Int) ∈ uni (usedL (⟨⟨⟨some ⟨rk, 0, none⟩, dn, dc, dx'⟩, ⟨none, 0, 0, []⟩⟩, s.ub, s.objs, s.idx⟩ : Sto))) = true by
          have e : usedL (⟨⟨⟨some ⟨rk, 0, none⟩, dn, dc, dx'⟩, ⟨none, 0, 0, []⟩⟩, s.ub, s.objs, s.idx⟩ : Sto) = s.abs.used := (used_abs (⟨⟨⟨some ⟨rk, 0, none⟩, dn, dc, dx'⟩, ⟨none, 0, 0, []⟩⟩, s.ub, s.objs, s.idx⟩ : Sto)).symm
          rw [e]
          exact decide_eq_true ((mem_uni _).2 hu))
        have HPg := Lib.hid (fun (W : World) (hW : Sto.At W 0 W.heap.size (⟨⟨⟨some ⟨rk, 0, none⟩, dn, dc, dx'⟩, ⟨none, 0, 0, []⟩⟩, s.ub, s.objs, s.idx⟩ : Sto)) => show Calls Tryz.prog 10 #[.agg #[.slice (some ⟨rk, 0, none⟩) dn dc, .slice none 0 0, .int .i64 s.ub.txg, .int .i64 s.ub.first, .int .i64 s.ub.objs, .slice s.objs.A s.objs.n s.objs.c, .slice s.idx.A s.idx.n s.idx.c]] W (fun e w' => ∃ v, e = .returned v ∧ w'.ownsRow W.heap.size 3 1 v (uni (usedL (⟨⟨⟨some ⟨rk, 0, none⟩, dn, dc, dx'⟩, ⟨none, 0, 0, []⟩⟩, s.ub, s.objs, s.idx⟩ : Sto))).length (ints (uni (usedL (⟨⟨⟨some ⟨rk, 0, none⟩, dn, dc, dx'⟩, ⟨none, 0, 0, []⟩⟩, s.ub, s.objs, s.idx⟩ : Sto)))) ∧ Ext W w') from
          pages_any W (⟨⟨⟨some ⟨rk, 0, none⟩, dn, dc, dx'⟩, ⟨none, 0, 0, []⟩⟩, s.ub, s.objs, s.idx⟩ : Sto) hW (small_abs hW HZ.out.1.ok) (Nat.le_trans (small_abs_objs hW HZ.out.1.ok) (by decide)))
        clear hu hbd HZ
        generalize uni (usedL (⟨⟨⟨some ⟨rk, 0, none⟩, dn, dc, dx'⟩, ⟨none, 0, 0, []⟩⟩, s.ub, s.objs, s.idx⟩ : Sto)) = UL at *
        go_wp2_with (refine shl_load HH.out sizeSto (by kernel_rfl) rfl rfl rfl 1 rfl rfl ?_)
        refine (HLk.out _ (HSA.out _ _ _ HH.out)).mono ?_
        rintro e w7 ⟨A7, c7, g1, g2, g3, rfl, hrw, e7⟩
        have HH7 := Lib.hid (HH.out.addRow e7 hrw)
        clear HH hrw e7 HLk
        have HH := HH7
        clear HH7
        go_upto_region 13 with (refine shl_store (HH.out.alloc _ _) sizeKk rfl rfl rfl rfl 0 rfl rfl rfl rfl ?_; clear HH; intro wS HHS; have HH := Lib.hid HHS; clear HHS)
        obtain ⟨r16, hr16⟩ : ∃ b, b = w7.heap.size := ⟨_, rfl⟩
        rw [← hr16] at HH ⊢
        clear hr16
        have HH2 := Lib.hid (show Heap w1 (.box r16 [.int .i64 g1, .slice A7 1 c7, .int .i64 g2, .int .i64 g3] :: .row 3 1 (.slice A7 1 c7) 1 (ints [(q : Int)]) :: .box d14 [.slice (some ⟨rk, 0, none⟩) dn dc, .slice none 0 0] :: .box s11 [.slice (some ⟨rk, 0, none⟩) dn dc, .slice none 0 0, .int .i64 s.ub.txg, .int .i64 s.ub.first, .int .i64 s.ub.objs, .slice s.objs.A s.objs.n s.objs.c, .slice s.idx.A s.idx.n s.idx.c] :: rowIt dn (some ⟨rk, 0, none⟩) dc (dx'.flatMap octv) :: dx'.map secIt) wS from HH.out)
        clear HH
        have HH := HH2
        clear HH2
        have HSB := Lib.hid (fun (W : World) (hH : Heap w1 (.box r16 [.int .i64 g1, .slice A7 1 c7, .int .i64 g2, .int .i64 g3] :: .row 3 1 (.slice A7 1 c7) 1 (ints [(q : Int)]) :: .box d14 [.slice (some ⟨rk, 0, none⟩) dn dc, .slice none 0 0] :: .box s11 [.slice (some ⟨rk, 0, none⟩) dn dc, .slice none 0 0, .int .i64 s.ub.txg, .int .i64 s.ub.first, .int .i64 s.ub.objs, .slice s.objs.A s.objs.n s.objs.c, .slice s.idx.A s.idx.n s.idx.c] :: rowIt dn (some ⟨rk, 0, none⟩) dc (dx'.flatMap octv) :: dx'.map secIt) W) => HSA.out W _ _ hH.tail.tail)
        go_wp2_with (refine shl_load HH.out sizeSto (by kernel_rfl) rfl rfl rfl 3 rfl rfl ?_)
        refine (HPg.out _ (HSB.out _ HH.out)).mono ?_
        rintro e w8 ⟨v8, rfl, hrw, e8⟩
        obtain ⟨A8, c8, rfl, k1, k2, _⟩ := own_form hrw
        have HR8 := Lib.hid ((Rd.of_own hrw).m0)
        have HH8 := Lib.hid (HH.out.later e8)
        clear HH hrw e8 HPg
        have HH := HH8
        clear HH8
        go_wp2_with fail
        refine (has_any w8 A8 UL.length c8 UL (q : Int) rfl (Nat.le_trans (Nat.le_trans k1 k2) (by decide)) HR8.out).mono ?_
        rintro e w9 ⟨rfl, e9⟩
        rw [HMm.out]
        have HH9 := Lib.hid (HH.out.later e9)
        clear HH e9 HR8 k1 k2
        have HH := HH9
        clear HH9
        have g1' := (HH.out.boxAt 0 rfl).cell 1 _ rfl
        obtain ⟨ra, rcc, hr7⟩ := HH.out.rowForm 1 rfl (by decide)
        obtain ⟨rfl, rfl⟩ : A7 = some ⟨ra, 0, none⟩ ∧ c7 = rcc := by simpa using hr7
        have f7 : w9.cell? ⟨ra, 0, none⟩ = some (.int .i64 (q : Int)) := (HH.out.rowAt 1 rfl).cellAt 0 (by decide)
        clear hr7
        have g0 := (HH.out.boxAt 3 rfl).cell 0 _ rfl; have g1 := (HH.out.boxAt 3 rfl).cell 1 _ rfl; have g2 := (HH.out.boxAt 3 rfl).cell 2 _ rfl; have g3 := (HH.out.boxAt 3 rfl).cell 3 _ rfl; have g4 := (HH.out.boxAt 3 rfl).cell 4 _ rfl; have g5 := (HH.out.boxAt 3 rfl).cell 5 _ rfl; have g6 := (HH.out.boxAt 3 rfl).cell 6 _ rfl
        go_wp2_with fail
        clear g0 g1' g2 g3 g4 g5 g6 f7
        refine (HSn.out _ (HSB.out _ HH.out)).mono ?_
        rintro e w10 ⟨rfl, e10⟩
        have HE := Lib.hid (HE1.out.trans (HH.out.ext.trans e10))
        go_wp2_with fail
        go_ret
        exact ⟨rfl, HE.out⟩
      · have hbd : bdL s.abs (q : Int) = [] := if_neg hu
        have HLk := Lib.hid (fun (W : World) (hW : Sto.At W 0 W.heap.size (⟨⟨⟨some ⟨rk, 0, none⟩, dn, dc, dx'⟩, ⟨none, 0, 0, []⟩⟩, s.ub, s.objs, s.idx⟩ : Sto)) => show Calls Tryz.prog 12 #[.agg #[.slice (some ⟨rk, 0, none⟩) dn dc, .slice none 0 0, .int .i64 s.ub.txg, .int .i64 s.ub.first, .int .i64 s.ub.objs, .slice s.objs.A s.objs.n s.objs.c, .slice s.idx.A s.idx.n s.idx.c]] W (fun e w' => ∃ (A : Option Addr) (c : Nat) (g1 g2 g3 : Int), e = .returned (.tuple #[.agg #[.int .i64 g1, .slice A 0 c, .int .i64 g2, .int .i64 g3], .int .i64 0]) ∧ w'.ownsRow W.heap.size 3 1 (.slice A 0 c) 0 (ints []) ∧ Ext W w') from by
          refine (look_held W (⟨⟨⟨some ⟨rk, 0, none⟩, dn, dc, dx'⟩, ⟨none, 0, 0, []⟩⟩, s.ub, s.objs, s.idx⟩ : Sto) s.abs (q : Int) hW HZ.out.1).mono ?_
          rintro e w' ⟨A, c, st, fl, rfl, _, _, h3, ee⟩
          rw [hbd] at h3 ⊢
          exact ⟨A, c, _, _, _, rfl, h3, ee⟩)
        have HSn := Lib.hid (fun (W : World) (hW : Sto.At W 0 W.heap.size (⟨⟨⟨some ⟨rk, 0, none⟩, dn, dc, dx'⟩, ⟨none, 0, 0, []⟩⟩, s.ub, s.objs, s.idx⟩ : Sto)) => show Calls Tryz.prog 14 #[.agg #[.slice (some ⟨rk, 0, none⟩) dn dc, .slice none 0 0, .int .i64 s.ub.txg, .int .i64 s.ub.first, .int .i64 s.ub.objs, .slice s.objs.A s.objs.n s.objs.c, .slice s.idx.A s.idx.n s.idx.c]] W (fun e w' => e = .returned (.bool true) ∧ Ext W w') from by
          have h := sound_z W (⟨⟨⟨some ⟨rk, 0, none⟩, dn, dc, dx'⟩, ⟨none, 0, 0, []⟩⟩, s.ub, s.objs, s.idx⟩ : Sto) s.abs (q : Int) hW HZ.out.1 HZ.out.2
          rw [show decide ((q : Int) ∉ s.abs.used) = true from decide_eq_true hu] at h
          exact h)
        have HMm := Lib.hid (show decide ((q : Int) ∈ uni (usedL (⟨⟨⟨some ⟨rk, 0, none⟩, dn, dc, dx'⟩, ⟨none, 0, 0, []⟩⟩, s.ub, s.objs, s.idx⟩ : Sto))) = false by
          have e : usedL (⟨⟨⟨some ⟨rk, 0, none⟩, dn, dc, dx'⟩, ⟨none, 0, 0, []⟩⟩, s.ub, s.objs, s.idx⟩ : Sto) = s.abs.used := (used_abs (⟨⟨⟨some ⟨rk, 0, none⟩, dn, dc, dx'⟩, ⟨none, 0, 0, []⟩⟩, s.ub, s.objs, s.idx⟩ : Sto)).symm
          rw [e]
          exact decide_eq_false fun h => hu ((mem_uni _).1 h))
        have HPg := Lib.hid (fun (W : World) (hW : Sto.At W 0 W.heap.size (⟨⟨⟨some ⟨rk, 0, none⟩, dn, dc, dx'⟩, ⟨none, 0, 0, []⟩⟩, s.ub, s.objs, s.idx⟩ : Sto)) => show Calls Tryz.prog 10 #[.agg #[.slice (some ⟨rk, 0, none⟩) dn dc, .slice none 0 0, .int .i64 s.ub.txg, .int .i64 s.ub.first, .int .i64 s.ub.objs, .slice s.objs.A s.objs.n s.objs.c, .slice s.idx.A s.idx.n s.idx.c]] W (fun e w' => ∃ v, e = .returned v ∧ w'.ownsRow W.heap.size 3 1 v (uni (usedL (⟨⟨⟨some ⟨rk, 0, none⟩, dn, dc, dx'⟩, ⟨none, 0, 0, []⟩⟩, s.ub, s.objs, s.idx⟩ : Sto))).length (ints (uni (usedL (⟨⟨⟨some ⟨rk, 0, none⟩, dn, dc, dx'⟩, ⟨none, 0, 0, []⟩⟩, s.ub, s.objs, s.idx⟩ : Sto)))) ∧ Ext W w') from
          pages_any W (⟨⟨⟨some ⟨rk, 0, none⟩, dn, dc, dx'⟩, ⟨none, 0, 0, []⟩⟩, s.ub, s.objs, s.idx⟩ : Sto) hW (small_abs hW HZ.out.1.ok) (Nat.le_trans (small_abs_objs hW HZ.out.1.ok) (by decide)))
        clear hu hbd HZ
        generalize uni (usedL (⟨⟨⟨some ⟨rk, 0, none⟩, dn, dc, dx'⟩, ⟨none, 0, 0, []⟩⟩, s.ub, s.objs, s.idx⟩ : Sto)) = UL at *
        go_wp2_with (refine shl_load HH.out sizeSto (by kernel_rfl) rfl rfl rfl 1 rfl rfl ?_)
        refine (HLk.out _ (HSA.out _ _ _ HH.out)).mono ?_
        rintro e w7 ⟨A7, c7, g1, g2, g3, rfl, hrw, e7⟩
        have HH7 := Lib.hid (HH.out.addRow e7 hrw)
        clear HH hrw e7 HLk
        have HH := HH7
        clear HH7
        go_upto_region 13 with (refine shl_store (HH.out.alloc _ _) sizeKk rfl rfl rfl rfl 0 rfl rfl rfl rfl ?_; clear HH; intro wS HHS; have HH := Lib.hid HHS; clear HHS)
        obtain ⟨r16, hr16⟩ : ∃ b, b = w7.heap.size := ⟨_, rfl⟩
        rw [← hr16] at HH ⊢
        clear hr16
        have HH2 := Lib.hid (show Heap w1 (.box r16 [.int .i64 g1, .slice A7 0 c7, .int .i64 g2, .int .i64 g3] :: .row 3 1 (.slice A7 0 c7) 0 (ints []) :: .box d14 [.slice (some ⟨rk, 0, none⟩) dn dc, .slice none 0 0] :: .box s11 [.slice (some ⟨rk, 0, none⟩) dn dc, .slice none 0 0, .int .i64 s.ub.txg, .int .i64 s.ub.first, .int .i64 s.ub.objs, .slice s.objs.A s.objs.n s.objs.c, .slice s.idx.A s.idx.n s.idx.c] :: rowIt dn (some ⟨rk, 0, none⟩) dc (dx'.flatMap octv) :: dx'.map secIt) wS from HH.out)
        clear HH
        have HH := HH2
        clear HH2
        have HSB := Lib.hid (fun (W : World) (hH : Heap w1 (.box r16 [.int .i64 g1, .slice A7 0 c7, .int .i64 g2, .int .i64 g3] :: .row 3 1 (.slice A7 0 c7) 0 (ints []) :: .box d14 [.slice (some ⟨rk, 0, none⟩) dn dc, .slice none 0 0] :: .box s11 [.slice (some ⟨rk, 0, none⟩) dn dc, .slice none 0 0, .int .i64 s.ub.txg, .int .i64 s.ub.first, .int .i64 s.ub.objs, .slice s.objs.A s.objs.n s.objs.c, .slice s.idx.A s.idx.n s.idx.c] :: rowIt dn (some ⟨rk, 0, none⟩) dc (dx'.flatMap octv) :: dx'.map secIt) W) => HSA.out W _ _ hH.tail.tail)
        go_wp2_with (refine shl_load HH.out sizeSto (by kernel_rfl) rfl rfl rfl 3 rfl rfl ?_)
        refine (HPg.out _ (HSB.out _ HH.out)).mono ?_
        rintro e w8 ⟨v8, rfl, hrw, e8⟩
        obtain ⟨A8, c8, rfl, k1, k2, _⟩ := own_form hrw
        have HR8 := Lib.hid ((Rd.of_own hrw).m0)
        have HH8 := Lib.hid (HH.out.later e8)
        clear HH hrw e8 HPg
        have HH := HH8
        clear HH8
        go_wp2_with fail
        refine (has_any w8 A8 UL.length c8 UL (q : Int) rfl (Nat.le_trans (Nat.le_trans k1 k2) (by decide)) HR8.out).mono ?_
        rintro e w9 ⟨rfl, e9⟩
        rw [HMm.out]
        have HH9 := Lib.hid (HH.out.later e9)
        clear HH e9 HR8 k1 k2
        have HH := HH9
        clear HH9
        have g1' := (HH.out.boxAt 0 rfl).cell 1 _ rfl
        have g0 := (HH.out.boxAt 3 rfl).cell 0 _ rfl; have g1 := (HH.out.boxAt 3 rfl).cell 1 _ rfl; have g2 := (HH.out.boxAt 3 rfl).cell 2 _ rfl; have g3 := (HH.out.boxAt 3 rfl).cell 3 _ rfl; have g4 := (HH.out.boxAt 3 rfl).cell 4 _ rfl; have g5 := (HH.out.boxAt 3 rfl).cell 5 _ rfl; have g6 := (HH.out.boxAt 3 rfl).cell 6 _ rfl
        go_wp2_with fail
        clear g0 g1' g2 g3 g4 g5 g6
        refine (HSn.out _ (HSB.out _ HH.out)).mono ?_
        rintro e w10 ⟨rfl, e10⟩
        have HE := Lib.hid (HE1.out.trans (HH.out.ext.trans e10))
        go_wp2_with fail
        go_ret
        exact ⟨rfl, HE.out⟩
end Go.Proofs.YtfongpdeflfioaaGreat
/-
  FOR A PROOF OF AN '..UptoSaid': WHAT THE BOUND GIVES. Copy it as <Name>Bulk.lean (put your seat's Name for YtfongpdeflfioaaGreat, the bound of 'uptoSmall' for 1048576), name it in GOCLAIM.json's 'order' behind <Name>Rows. By an AI agent, Sun Nov 15 2026. No person has read it. No macro, syntax, notation, axiom, sorry.
-/
namespace Go.Proofs.YtfongpdeflfioaaGreat.bulks
theorem one_le {H : Type} (d : DataW H) : 1 ≤ Rows.uptoBulk d := by
  cases d with
  | lit l => cases l <;> simp [Rows.uptoBulk]
  | nil => simp [Rows.uptoBulk]
  | ptr d => simp [Rows.uptoBulk]
  | slice elems spare => simp [Rows.uptoBulk]
  | agg parts => simp [Rows.uptoBulk]
  | iface t d => simp [Rows.uptoBulk]
  | map entries => simp [Rows.uptoBulk]
  | held h => simp [Rows.uptoBulk]
theorem part_le {H : Type} {d : DataW H} {l : List (DataW H)} (h : d ∈ l) : Rows.uptoBulk d ≤ Rows.uptoBulkAll l := by
  induction l with
  | nil => cases h
  | cons x r ih =>
    simp only [Rows.uptoBulkAll]
    cases List.mem_cons.1 h with
    | inl e => subst e; omega
    | inr e => have := ih e; omega
theorem append {H : Type} (l r : List (DataW H)) : Rows.uptoBulkAll (l ++ r) = Rows.uptoBulkAll l + Rows.uptoBulkAll r := by
  induction l with
  | nil => simp [Rows.uptoBulkAll]
  | cons x l ih => simp only [List.cons_append, Rows.uptoBulkAll, ih]; omega
theorem length_le {H : Type} (l : List (DataW H)) : l.length ≤ Rows.uptoBulkAll l := by
  induction l with
  | nil => simp [Rows.uptoBulkAll]
  | cons x r ih => have := one_le x; simp only [Rows.uptoBulkAll, List.length_cons]; omega
theorem slice_le {H : Type} (elems spare : List (DataW H)) : elems.length + spare.length + 1 ≤ Rows.uptoBulk (.slice elems spare) := by
  have h1 := length_le elems
  have h2 := length_le spare
  simp only [Rows.uptoBulk]
  omega
theorem slice_elems {H : Type} (elems spare : List (DataW H)) : Rows.uptoBulkAll elems + 1 ≤ Rows.uptoBulk (.slice elems spare) := by
  simp only [Rows.uptoBulk]
  omega
theorem string_eq {H : Type} (bytes : List UInt8) : Rows.uptoBulk (DataW.lit (H := H) (.string bytes)) = bytes.length + 1 := by
  simp [Rows.uptoBulk]
theorem bound {H : Type} {l : List (DataW H)} (hk : Rows.uptoSmall H l = true) : Rows.uptoBulkAll l ≤ 1048576 := by
  simpa [Rows.uptoSmall] using hk
theorem room {n b : Nat} (hn : n ≤ 2097152) (hb : b ≤ 4096) : (n + n / 4 + 192) * b ≤ 281474976710656 := by
  have h : (n + n / 4 + 192) * b ≤ 2621632 * 4096 := Nat.mul_le_mul (by omega) hb
  omega
end Go.Proofs.YtfongpdeflfioaaGreat.bulks
/- Arguments that come in, where the whole is of bulk at most 1048576: openers that are put together. -/
namespace Go.Proofs.YtfongpdeflfioaaGreat.opb
open Go.RowKit Go.ChangeShapes Go.WideShapes Go.Deep Go.Joins
set_option linter.unusedVariables false
structure In {α : Type} (w : World) (cells : α → List Value) (I : α → Prop) (s : Sl α) : Prop where
  len : s.n = s.xs.length
  le : s.n ≤ s.c
  cap : s.c ≤ maxLen
  small : s.n ≤ 1048576
  rd : Rd w 0 w.heap.size s.A (s.xs.flatMap cells)
  all : ∀ x ∈ s.xs, I x
section
variable {H : Type} {enc : TypeId × Value → H} {P : Program} {w : World} {t e : TypeId} {α β : Type}
def Opens (enc : TypeId × Value → H) (P : Program) (w : World) (t : TypeId) (cells : α → List Value) (I : α → Prop) : Prop :=
  ∀ (spare : Nat → Bool) (held : Bool) (fuel : Nat) (cs : List Value) (x : DataW H × List MemPlace), DataW.trod enc P w 0 spare held fuel t cs = some x → Rows.uptoBulk x.1 ≤ 1048576 → ∃ a, cs = cells a ∧ I a
theorem opens_int {k : IntKind} (ht : P.underlying t = some (.int k)) : Opens enc P w t (fun z : Int => [.int k z]) (fun z => k.min ≤ z ∧ z ≤ k.max) := fun _ _ _ _ _ h _ => by
  obtain ⟨n, rfl, _, hw⟩ := DataW.trod_int ht h
  simp only [Lit.wf, Bool.and_eq_true, decide_eq_true_eq] at hw
  exact ⟨n, rfl, hw⟩
theorem opens_bool (ht : P.underlying t = some .bool) : Opens enc P w t (fun z : Bool => [.bool z]) (fun _ => True) := fun _ _ _ _ _ h _ => by
  obtain ⟨n, rfl, _⟩ := DataW.trod_bool ht h
  exact ⟨n, rfl, trivial⟩
theorem opens_str (ht : P.underlying t = some .string) : Opens enc P w t (fun s : ByteArray => [.string s]) (fun s => s.size ≤ 1048576) := fun _ _ _ _ _ h hw => by
  obtain ⟨s, rfl, rfl, _⟩ := DataW.trod_string ht h
  refine ⟨s, rfl, ?_⟩
  rw [bulks.string_eq, Array.length_toList] at hw
  exact Nat.le_trans (Nat.le_succ _) hw
theorem Opens.map {cells : α → List Value} {I : α → Prop} {cells' : β → List Value} {I' : β → Prop} (h : Opens enc P w t cells I) (f : α → β) (hc : ∀ a, I a → cells a = cells' (f a)) (hi : ∀ a, I a → I' (f a)) : Opens enc P w t cells' I' := fun _ _ _ _ _ h1 h2 => by
  obtain ⟨a, rfl, ha⟩ := h _ _ _ _ _ h1 h2
  exact ⟨f a, hc a ha, hi a ha⟩
theorem opens_slice (size : Nat) {cells : α → List Value} {I : α → Prop} (ht : P.underlying t = some (.slice e)) (hC : P.cellsOf e = size) (h0 : 0 < size) (hs : ∀ a, (cells a).length = size) (el : Opens enc P w e cells I) :
    Opens enc P w t (fun s : Sl α => [s.val]) (In w cells I) := fun spare held fuel cs x h hw => by
  subst hC
  rcases open_slice ht h with ⟨rfl, rfl⟩ | ⟨a, len, cap, m, n, D, Pl, rfl, _, hl, hm, hmm, rfl, hi⟩
  · exact ⟨⟨none, 0, 0, []⟩, rfl, ⟨rfl, Nat.le_refl _, Nat.zero_le _, Nat.zero_le _, Rd.nil, fun _ h => by simp at h⟩⟩
  · have hb := bulks.slice_le ((List.range len).map D) ((List.range (m - len)).map fun j => D (len + j))
    have hb2 := bulks.slice_elems ((List.range len).map D) ((List.range (m - len)).map fun j => D (len + j))
    have hw' : Rows.uptoBulk (.slice ((List.range len).map D) ((List.range (m - len)).map fun j => D (len + j))) ≤ 1048576 := hw
    have hsm : len ≤ 1048576 := by
      simp only [List.length_map, List.length_range] at hb
      omega
    rcases Nat.eq_zero_or_pos len with hlen | hlen
    · subst hlen
      exact ⟨⟨some a, 0, cap, []⟩, rfl, ⟨rfl, hl, hm, Nat.zero_le _, Rd.nil, fun _ h => by simp at h⟩⟩
    · have hml : len ≤ m := by rw [hmm]; split <;> omega
      have one : ∀ i, i < len → ∃ y : α, I y ∧ ∀ j u, (cells y)[j]? = some u → w.cell? (a.add (i * P.cellsOf e + j)) = some u := by
        intro i hil
        obtain ⟨cs', hc, ht'⟩ := hi i (by omega)
        obtain ⟨y, rfl, hy⟩ := el _ _ _ _ _ ht' (by
          have h1 := bulks.part_le (d := D i) (l := (List.range len).map D) (List.mem_map_of_mem (List.mem_range.2 hil))
          show Rows.uptoBulk (D i) ≤ _
          omega)
        obtain ⟨_, _, hat⟩ := World.cells?_some hc
        refine ⟨y, hy, fun j u hu => ?_⟩
        have hj : j < P.cellsOf e := by
          have := (List.getElem?_eq_some_iff.1 hu).1
          rwa [hs] at this
        rw [← Go.Deep.add_add, hat j hj, hu]
      have key : ∀ i, ∃ y : α, i < len → I y ∧ ∀ j u, (cells y)[j]? = some u → w.cell? (a.add (i * P.cellsOf e + j)) = some u := by
        intro i
        by_cases hil : i < len
        · obtain ⟨y, h1, h2⟩ := one i hil
          exact ⟨y, fun _ => ⟨h1, h2⟩⟩
        · obtain ⟨y, _⟩ := one 0 hlen
          exact ⟨y, fun h => absurd h hil⟩
      obtain ⟨g, hg⟩ := Classical.axiomOfChoice key
      refine ⟨⟨some a, len, cap, (List.range len).map g⟩, rfl, ⟨by simp, hl, hm, hsm, plain_of_cells fun i u hu => ?_, fun x hx => ?_⟩⟩
      · have hil : i < len * P.cellsOf e := by
          have := (List.getElem?_eq_some_iff.1 hu).1
          rw [flat_length hs] at this
          simpa using this
        have hk : i / P.cellsOf e < len := Nat.div_lt_of_lt_mul (by rw [Nat.mul_comm]; exact hil)
        have hij : i / P.cellsOf e * P.cellsOf e + i % P.cellsOf e = i := Nat.div_add_mod' i (P.cellsOf e)
        rw [← hij, flat_get hs _ _ _ (Nat.mod_lt _ h0) (by simpa using hk)] at hu
        simp only [List.getElem_map, List.getElem_range] at hu
        rw [← hij]
        exact (hg _ hk).2 _ u hu
      · simp only [List.mem_map, List.mem_range] at hx
        obtain ⟨i, hil, rfl⟩ := hx
        exact (hg i hil).1
def OpensF (enc : TypeId × Value → H) (P : Program) (w : World) (L : Nat) (fs : List Field) (off : Nat) (cells : α → List Value) (I : α → Prop) : Prop :=
  ∀ (spare : Nat → Bool) (held : Bool) (fuel : Nat) (cs : List Value) (ys : List (DataW H × List MemPlace)), cs.length = L → ys.length = fs.length →
    (∀ (i : Nat) (f : Field), fs[i]? = some f → DataW.trod enc P w 0 spare held fuel f.type ((cs.drop f.offset).take (P.cellsOf f.type)) = ys[i]?) →
    Rows.uptoBulkAll (ys.map (·.1)) ≤ 1048576 → ∃ a, cs.drop off = cells a ∧ I a
theorem OpensF.nil {L : Nat} : OpensF enc P w L [] L (fun _ : Unit => []) (fun _ => True) := fun _ _ _ cs _ hl _ _ _ => ⟨(), List.drop_eq_nil_of_le (by omega), trivial⟩
theorem OpensF.cons (size : Nat) {L off : Nat} {f : Field} {fs : List Field} {cells : α → List Value} {I : α → Prop} {cells' : β → List Value} {I' : β → Prop} (h : Opens enc P w f.type cells I) (ho : f.offset = off) (hc : P.cellsOf f.type = size)
    (r : OpensF enc P w L fs (off + size) cells' I') : OpensF enc P w L (f :: fs) off (fun x : α × β => cells x.1 ++ cells' x.2) (fun x => I x.1 ∧ I' x.2) := fun spare held fuel cs ys hl hy hf hw => by
  subst ho hc
  cases ys with
  | nil => simp at hy
  | cons y ys =>
    simp only [List.map_cons, Rows.uptoBulkAll] at hw
    obtain ⟨a, ha, hi⟩ := h _ _ _ _ y (hf 0 f rfl) (by omega)
    obtain ⟨b, hb, hj⟩ := r spare held fuel cs ys hl (by simpa using hy) (fun i g hg => hf (i + 1) g hg) (by omega)
    refine ⟨(a, b), ?_, hi, hj⟩
    show _ = cells a ++ cells' b
    rw [← ha, ← hb, ← List.drop_drop, List.take_append_drop]
theorem opens_struct {L : Nat} {fs : Array Field} {cells : α → List Value} {I : α → Prop} (hu : P.underlying t = some (.struct fs)) (hL : P.cellsOf t = L) (hF : OpensF enc P w L fs.toList 0 cells I) : Opens enc P w t cells I := fun spare held fuel cs x h hw => by
  obtain ⟨ys, n, _, rfl, hlen, hyl, hf⟩ := DataW.trod_struct hu h
  obtain ⟨a, ha, hi⟩ := hF spare held n cs ys (hlen.trans hL) (by simpa using hyl) (fun i f hif => hf i f (by simpa using hif)) (by
    have h1 : Rows.uptoBulk (DataW.agg (ys.map (·.1))) ≤ 1048576 := hw
    simp only [Rows.uptoBulk] at h1
    omega)
  exact ⟨a, by simpa using ha, hi⟩
theorem Opens.param_struct {fs : Array Field} {cells : α → List Value} {I : α → Prop} (h : Opens enc P w t cells I) (hu : P.underlying t = some (.struct fs)) {r : Reach} {b0 : Nat} {spare : Nat → Bool} {held : Bool} {v : Value} {d : DataW H} {p : List MemPlace}
    (hv : Value.okWide P w r b0 t v) (ht : DataW.Trod enc P w 0 spare held t v d p) (hw : Rows.uptoBulk d ≤ 1048576) : ∃ a, v = .agg (cells a).toArray ∧ I a := by
  obtain ⟨cs, rfl, _⟩ := okWide_struct hu hv
  obtain ⟨fuel, hf⟩ := ht
  obtain ⟨a, ha, hi⟩ := h _ _ _ _ _ hf hw
  exact ⟨a, by rw [← ha]; rfl, hi⟩
theorem Opens.param_slice {I : Sl α → Prop} (h : Opens enc P w t (fun s : Sl α => [s.val]) I) (ht : P.underlying t = some (.slice e)) {r : Reach} {b0 : Nat} {spare : Nat → Bool} {held : Bool} {v : Value} {d : DataW H} {p : List MemPlace}
    (hv : Value.okWide P w r b0 t v) (htr : DataW.Trod enc P w 0 spare held t v d p) (hw : Rows.uptoBulk d ≤ 1048576) : ∃ s : Sl α, v = s.val ∧ I s := by
  obtain ⟨A, n, c, rfl⟩ := okWide_slice ht hv
  obtain ⟨fuel, hf⟩ := htr
  obtain ⟨a, ha, hi⟩ := h _ _ _ _ _ hf hw
  exact ⟨a, by simpa [Value.cells] using ha, hi⟩
theorem param_string (ht : P.underlying t = some .string) {r : Reach} {b0 : Nat} {spare : Nat → Bool} {held : Bool} {v : Value} {d : DataW H} {p : List MemPlace}
    (hv : Value.okWide P w r b0 t v) (htr : DataW.Trod enc P w 0 spare held t v d p) (hw : Rows.uptoBulk d ≤ 1048576) : ∃ s : ByteArray, v = .string s ∧ s.size ≤ 1048576 := by
  obtain ⟨s, rfl, rfl, rfl, hmax⟩ := Go.ChangeMaps.open_string ht hv htr
  rw [bulks.string_eq, Array.length_toList] at hw
  exact ⟨s, rfl, Nat.le_trans (Nat.le_succ _) hw⟩
theorem arg_le {ds : List (DataW H)} {d : DataW H} (h : Rows.uptoBulkAll ds ≤ 1048576) (hd : d ∈ ds) : Rows.uptoBulk d ≤ 1048576 := Nat.le_trans (bulks.part_le hd) h
end
end Go.Proofs.YtfongpdeflfioaaGreat.opb
