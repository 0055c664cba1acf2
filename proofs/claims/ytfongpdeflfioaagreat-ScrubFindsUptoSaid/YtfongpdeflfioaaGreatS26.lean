/- The texts Hst, Cgd, Mad, Pgs, Not in one file. -/
import Derived.Test.YtfongpdeflfioaaGreatS24
import Derived.Test.YtfongpdeflfioaaGreatS25
import Derived.Test.YtfongpdeflfioaaGreatS12
import Derived.Test.YtfongpdeflfioaaGreatS13
import Derived.Test.YtfongpdeflfioaaGreatS2
/- godownlaw10.has: has a store just some objects? -/
namespace Go.Proofs.YtfongpdeflfioaaGreat
open Go.RowKit Go.Maps Go.Sort Go.Shelf
set_option linter.unusedVariables false
set_option linter.unusedSimpArgs false
def kdO (x : Ob) : ByteArray × List UInt8 := (x.key, x.data.xs)
def hsB (xs ys : List Ob) : Bool := decide (xs.map kdO = ys.map kdO)
set_option maxRecDepth 100000 in
set_option maxHeartbeats 8000000 in
theorem hst_any (w : World) (s : Sto) (l : Sl Ob) (h : Sto.At w 0 w.heap.size s) (hl : Sl.At w 0 w.heap.size Ob.cells (Ob.At w 0 w.heap.size) l) : Calls Tryz.prog 25 #[.agg s.cells.toArray, l.val] w fun e w' => e = .returned (.bool (hsB s.objs.xs l.xs)) ∧ Ext w w' := by
  have HS := Lib.hid h.objs
  have HL := Lib.hid hl
  have hln : l.n ≤ 9223372036854775807 := Nat.le_trans hl.le hl.cap
  have hsn : s.objs.n ≤ 9223372036854775807 := Nat.le_trans h.objs.le h.objs.cap
  have HV := Lib.hid (show hsB s.objs.xs l.xs = decide (s.objs.xs.map kdO = l.xs.map kdO) from rfl)
  generalize hsB s.objs.xs l.xs = V at *
  clear h hl
  obtain ⟨⟨⟨sA, sn, sc, sx⟩, ⟨wA, wn, wc, wx⟩⟩, ⟨ut, uf, uo⟩, ⟨oA, on, oc, ox⟩, ⟨iA, im, ic, ix⟩⟩ := s
  obtain ⟨lA, n, lc, xs⟩ := l
  simp only [Sto.cells, Sl.val] at *
  have Hn := Lib.hid (show n = xs.length from HL.out.len)
  have Ho := Lib.hid (show on = ox.length from HS.out.len)
  go_enter Tryz.func25, Tryz.ntmps25
  go_upto_region 1 with fail
  generalize hwH : World.alloc w _ = w1; have HH := Lib.hid (Heap.one hwH); clear hwH
  obtain ⟨sb, hsb⟩ : ∃ b, b = w.heap.size := ⟨_, rfl⟩
  have HSb := Lib.hid hsb
  rw [← hsb] at HH ⊢
  clear hsb
  by_cases hne : on = n
  · have hn0 : ((on : Int) != (n : Int)) = false := by rw [bne_eq_false_iff_eq]; omega
    have HNe := Lib.hid hne
    clear hne
    go_upto_region 2 with (refine shl_load1 HH.out rfl rfl rfl 0 rfl rfl (by decide +kernel) ?_)
    go_wp2_with fail
    go_loopw [5] (fun vi wr => ∃ k : Nat, k ≤ n ∧ vi = .int .i64 (k : Int) ∧ Hid ((ox.take k).map kdO = (xs.take k).map kdO) ∧ Hid (Heap w [.box sb [.slice sA sn sc, .slice wA wn wc, .int .i64 ut, .int .i64 uf, .int .i64 uo, .slice oA on oc, .slice iA im ic]] wr)) (fun vi _ => n - (intOf vi).toNat)
    case atStart => exact ⟨0, Nat.zero_le _, rfl, Lib.hid rfl, HH⟩
    case round =>
      clear HH
      obtain ⟨k, hk, rfl, HK, HH⟩ := hrel
      by_cases hlt : k < n
      · have l1 : k < xs.length := by rw [← Hn.out]; exact hlt
        have l2 : k < ox.length := by rw [← Ho.out, HNe.out]; exact hlt
        obtain ⟨b1, o1, hlA, hb1, f0, f1, _⟩ := rd_ob HL.out.rd l1
        obtain ⟨b2, o2, hoA, hb2, e0, e1, _⟩ := rd_ob HS.out.rd l2
        dsimp only at hlA hoA
        subst hlA
        subst hoA
        have HXl := Lib.hid (HL.out.all _ (List.getElem_mem l1)).data
        have HXo := Lib.hid (HS.out.all _ (List.getElem_mem l2)).data
        have HTl := Lib.hid (List.take_succ_eq_append_getElem l1)
        have HTo := Lib.hid (List.take_succ_eq_append_getElem l2)
        have HNo := Lib.hid (fun (hd : kdO ox[k] ≠ kdO xs[k]) => show V = false by
          rw [HV.out, decide_eq_false]
          intro he
          apply hd
          have h3 := congrArg (fun l => l[k]?) he
          simp only [List.getElem?_map, List.getElem?_eq_getElem l1, List.getElem?_eq_getElem l2, Option.map_some, Option.some.injEq] at h3
          exact h3)
        generalize xs[k] = x at *
        generalize ox[k] = y at *
        obtain ⟨xk, ⟨dA, dn, dc, dx⟩, ⟨qA, qn, qc, qx⟩⟩ := x
        obtain ⟨yk, ⟨eA, en, ec, ex⟩, ⟨pA, pn, pc, px⟩⟩ := y
        simp only [Sl.val] at f1 e1
        dsimp only at f0 e0
        have HE := Lib.hid HH.out.ext
        have hq1 : (k : Int) < (n : Int) := by omega
        have hq2 : (k : Int) < (on : Int) := by have := HNe.out; omega
        have g0 : ∀ w', Ext wr w' → w'.cell? ⟨b1, o1 + k * 3, none⟩ = some (.string xk) := fun w' hw => (Below.cell (HE.out.trans hw) hb1).trans f0
        have g1 : ∀ w', Ext wr w' → w'.cell? ⟨b1, o1 + k * 3 + 1, none⟩ = some (.slice dA dn dc) := fun w' hw => (Below.cell (HE.out.trans hw) hb1).trans f1
        have g2 : ∀ w', Ext wr w' → w'.cell? ⟨b2, o2 + k * 3, none⟩ = some (.string yk) := fun w' hw => (Below.cell (HE.out.trans hw) hb2).trans e0
        have g3 : ∀ w', Ext wr w' → w'.cell? ⟨b2, o2 + k * 3 + 1, none⟩ = some (.slice eA en ec) := fun w' hw => (Below.cell (HE.out.trans hw) hb2).trans e1
        have g4 : ∀ w', Ext wr w' → w'.cell? ⟨sb, 5, none⟩ = some (.slice (some ⟨b2, o2, none⟩) on oc) := fun w' hw => (Below.cell hw (HH.out.boxAt 0 rfl).lt).trans ((HH.out.boxAt 0 rfl).cell 5 _ rfl)
        have c1 : ∀ w', Ext wr w' → (convert 33 9 (.slice dA dn dc)).run Tryz.prog w' = .ok (.string ⟨dx.toArray⟩) w' := fun w' hw => run_conv_str w' _ _ 5 Tryz.underlying33 Tryz.underlying5 Tryz.underlying9 _ _ dA dn dc dx HXl.out.len (Rd.at HXl.out.rdb (HE.out.trans hw) (Nat.le_refl _))
        have c2 : ∀ w', Ext wr w' → (convert 33 9 (.slice eA en ec)).run Tryz.prog w' = .ok (.string ⟨ex.toArray⟩) w' := fun w' hw => run_conv_str w' _ _ 5 Tryz.underlying33 Tryz.underlying5 Tryz.underlying9 _ _ eA en ec ex HXo.out.len (Rd.at HXo.out.rdb (HE.out.trans hw) (Nat.le_refl _))
        have t1 := toList_eq (a := yk) (b := xk)
        have t2 := toArray_inj (a := ex) (b := dx)
        clear f0 f1 e0 e1
        go_upto_region 6 with fail
        refine wp_region_held_drew (S := fun w' => Ext wr w') (by kernel_rfl) (Ext.drew (Ext.refl wr)) (fun hHeld => ?_)
        refine tS 0 ?_; (try simp only [Act.put, lyA, lyB, lyC])
        refine tS 1 ?_; (try simp only [Act.put, lyA, lyB, lyC])
        refine tS 2 ?_; (try simp only [Act.put, lyA, lyB, lyC])
        refine tS 3 ?_; (try simp only [Act.put, lyA, lyB, lyC])
        refine tS 4 ?_; (try simp only [Act.put, lyA, lyB, lyC])
        refine tS 5 ?_; (try simp only [Act.put, lyA, lyB, lyC])
        refine tS 6 ?_; (try simp only [Act.put, lyA, lyB, lyC])
        refine tS 7 ?_; (try simp only [Act.put, lyA, lyB, lyC])
        refine tS 8 ?_; (try simp only [Act.put, lyA, lyB, lyC])
        refine tS 9 ?_; (try simp only [Act.put, lyA, lyB, lyC])
        refine tS 10 ?_; (try simp only [Act.put, lyA, lyB, lyC])
        by_cases hkey : yk = xk
        · rw [decide_eq_true hkey] at t1
          refine tS 11 ?_; (try simp only [Act.put, lyA, lyB, lyC])
          refine tS 12 ?_; (try simp only [Act.put, lyA, lyB, lyC])
          refine tS 13 ?_; (try simp only [Act.put, lyA, lyB, lyC])
          refine tS 14 ?_; (try simp only [Act.put, lyA, lyB, lyC])
          refine tS 15 ?_; (try simp only [Act.put, lyA, lyB, lyC])
          refine tS 16 ?_; (try simp only [Act.put, lyA, lyB, lyC])
          refine tS 17 ?_; (try simp only [Act.put, lyA, lyB, lyC])
          refine tS 18 ?_; (try simp only [Act.put, lyA, lyB, lyC])
          refine tS 19 ?_; (try simp only [Act.put, lyA, lyB, lyC])
          refine tS 20 ?_; (try simp only [Act.put, lyA, lyB, lyC])
          refine tS 21 ?_; (try simp only [Act.put, lyA, lyB, lyC])
          refine tS 22 ?_; (try simp only [Act.put, lyA, lyB, lyC])
          refine tS 23 ?_; (try simp only [Act.put, lyA, lyB, lyC])
          refine tS 24 ?_; (try simp only [Act.put, lyA, lyB, lyC])
          refine tS 25 ?_; (try simp only [Act.put, lyA, lyB, lyC])
          by_cases hdat : ex = dx
          · have t3 : (ex == dx) = true := by simp [hdat]
            rw [decide_eq_true hdat] at t2
            have HKn := Lib.hid (show (ox.take (k + 1)).map kdO = (xs.take (k + 1)).map kdO by
              rw [HTo.out, HTl.out, List.map_append, List.map_append, HK.out]
              rw [show [((⟨yk, ⟨eA, en, ec, ex⟩, ⟨pA, pn, pc, px⟩⟩ : Ob))].map kdO = [((⟨xk, ⟨dA, dn, dc, dx⟩, ⟨qA, qn, qc, qx⟩⟩ : Ob))].map kdO by simp [kdO, hkey, hdat]])
            clear hkey hdat HNo
            refine tS 26 ?_; (try simp only [Act.put, lyA, lyB, lyC])
            refine tS 27 ?_; (try simp only [Act.put, lyA, lyB, lyC])
            refine wpAnyH_done (by kernel_rfl) ?_ _
            clear hHeld g0 g1 g2 g3 g4 c1 c2
            go_wp2_with fail
            go_roundw
            case rel => exact ⟨k + 1, by omega, by go_num, HKn, Lib.hid HH.out.drew⟩
            case measure => (first | (simp [intOf]; done) | (simp [intOf]; omega))
          · have t3 : (ex == dx) = false := by simp [hdat]
            rw [decide_eq_false hdat] at t2
            have HVf := Lib.hid (HNo.out (by simp [kdO, hdat]))
            clear hkey hdat HNo
            refine tS 26 ?_; (try simp only [Act.put, lyA, lyB, lyC])
            refine tS 27 ?_; (try simp only [Act.put, lyA, lyB, lyC])
            refine wpAnyH_done (by kernel_rfl) ?_ _
            clear hHeld g0 g1 g2 g3 g4 c1 c2
            go_wp2_with fail
            go_ret
            exact ⟨retB HVf.out.symm, HH.out.drew.ext⟩
        · rw [decide_eq_false hkey] at t1
          have HVf := Lib.hid (HNo.out (by simp [kdO, hkey]))
          clear hkey HNo
          refine tS 11 ?_; (try simp only [Act.put, lyA, lyB, lyC])
          refine tS 12 ?_; (try simp only [Act.put, lyA, lyB, lyC])
          refine sS 13 ?_; (try simp only [Act.put, lyA, lyB, lyC])
          refine sS 14 ?_; (try simp only [Act.put, lyA, lyB, lyC])
          refine sS 15 ?_; (try simp only [Act.put, lyA, lyB, lyC])
          refine sS 16 ?_; (try simp only [Act.put, lyA, lyB, lyC])
          refine sS 17 ?_; (try simp only [Act.put, lyA, lyB, lyC])
          refine sS 18 ?_; (try simp only [Act.put, lyA, lyB, lyC])
          refine sS 19 ?_; (try simp only [Act.put, lyA, lyB, lyC])
          refine sS 20 ?_; (try simp only [Act.put, lyA, lyB, lyC])
          refine sS 21 ?_; (try simp only [Act.put, lyA, lyB, lyC])
          refine sS 22 ?_; (try simp only [Act.put, lyA, lyB, lyC])
          refine sS 23 ?_; (try simp only [Act.put, lyA, lyB, lyC])
          refine sS 24 ?_; (try simp only [Act.put, lyA, lyB, lyC])
          refine sS 25 ?_; (try simp only [Act.put, lyA, lyB, lyC])
          refine sS 26 ?_; (try simp only [Act.put, lyA, lyB, lyC])
          refine tS 27 ?_; (try simp only [Act.put, lyA, lyB, lyC])
          refine wpAnyH_done (by kernel_rfl) ?_ _
          clear hHeld g0 g1 g2 g3 g4 c1 c2
          go_wp2_with fail
          go_ret
          exact ⟨retB HVf.out.symm, HH.out.drew.ext⟩
      · obtain rfl : k = n := by omega
        have HVt := Lib.hid (show V = true by
          have h1 := HK.out
          rw [List.take_of_length_le (by rw [← Ho.out, HNe.out]; exact Nat.le_refl _), List.take_of_length_le (by rw [← Hn.out]; exact Nat.le_refl _)] at h1
          rw [HV.out, decide_eq_true h1])
        go_wp2_with fail
        go_ret
        exact ⟨retB HVt.out.symm, HH.out.ext⟩
  · have hn0 : ((on : Int) != (n : Int)) = true := by rw [bne_iff_ne]; omega
    have HVf := Lib.hid (show V = false by
      rw [HV.out, decide_eq_false]
      intro he
      have := congrArg List.length he
      rw [List.length_map, List.length_map, ← Hn.out, ← Ho.out] at this
      exact hne this)
    clear hne
    go_wp2_with (refine shl_load1 HH.out rfl rfl rfl 0 rfl rfl (by decide +kernel) ?_)
    go_ret
    exact ⟨retB HVf.out.symm, HH.out.ext⟩
end Go.Proofs.YtfongpdeflfioaaGreat
/- Commit of objects that may be. -/
namespace Go.Proofs.YtfongpdeflfioaaGreat
open Go.RowKit Go.Maps Go.Sort Go.Shelf
set_option linter.unusedVariables false
set_option linter.unusedSimpArgs false
def CgOut (W : World) (s : Sto) (g : List Ob) (e : Ending) (w' : World) : Prop :=
  (e = .returned (.tuple #[.agg zSto.toArray, .slice none 0 0, .int .i64 17]) ∧ Ext W w') ∨
  (∃ nx acts A c WW, e = .returned (.tuple #[.agg nx.cells.toArray, .slice A acts.length c, .int .i64 0]) ∧ acts.length ≤ c ∧ c ≤ maxLen ∧ Acs w' A acts.length c acts ∧ CmLaw s nx g acts WW ∧ Sto.At w' W.heap.size w'.heap.size nx ∧ Ext W w')
theorem commit_good (W : World) (s : Sto) (hs : Sto.At W 0 W.heap.size s) (ha : s.abs.holds) (hw : s.dev.waits.n = 0) (ht : s.ub.txg < 1099511627776) (g : Sl Ob) (hg : Gd 400 g.xs) (hl : Sl.At W 0 W.heap.size Ob.cells (Ob.At W 0 W.heap.size) g) : Calls Tryz.prog 20 #[.agg s.cells.toArray, g.val] W (CgOut W s g.xs) := by
  refine (commit_abs W s g hs ha hw hl).mono ?_
  rintro e w' (⟨E, _, hE, rfl, ee⟩ | ⟨nx, acts, A, c, WW, rfl, h1, h2, h3, _, h5, h6, h7⟩)
  · rcases hE with ⟨h, _⟩ | ⟨_, rfl, _⟩
    · exact absurd (hg.right (Nat.le_refl _) ht) h
    · exact .inl ⟨rfl, ee⟩
  · exact .inr ⟨nx, acts, A, c, WW, rfl, h1, h2, h3, h5, h6, h7⟩
theorem Gd.same {lim : Nat} {g g' : List Ob} (h : Gd lim g) (hk : g'.map kdO = g.map kdO) (h1 : ∀ x ∈ g, x.data.n = x.data.xs.length) (h2 : ∀ x ∈ g', x.data.n = x.data.xs.length) : Gd lim g' := by
  have hl : g'.length = g.length := by have := congrArg List.length hk; simpa using this
  have hm : ∀ x ∈ g', ∃ y ∈ g, y.key = x.key ∧ y.data.xs = x.data.xs := fun x hx => by
    have h3 : kdO x ∈ g.map kdO := by rw [← hk]; exact List.mem_map_of_mem hx
    obtain ⟨y, hy, e⟩ := List.mem_map.1 h3
    exact ⟨y, hy, congrArg Prod.fst e, congrArg Prod.snd e⟩
  refine ⟨by rw [hl]; exact h.six, ?_, fun x hx => ?_, fun x hx => ?_⟩
  · have h3 : g'.map Ob.key = g.map Ob.key := by
      have := congrArg (List.map Prod.fst) hk
      rw [List.map_map, List.map_map] at this
      exact this
    rw [risB_keys, h3, ← risB_keys]
    exact h.ris
  · obtain ⟨y, hy, e, _⟩ := hm x hx
    rw [← e]; exact h.key y hy
  · obtain ⟨y, hy, _, e⟩ := hm x hx
    rw [h2 x hx, ← e, ← h1 y hy]; exact h.dat y hy
end Go.Proofs.YtfongpdeflfioaaGreat
/- godownlaw40.made: a store of objects, committed one behind the other. -/
namespace Go.Proofs.YtfongpdeflfioaaGreat
open Go.RowKit Go.Maps Go.Sort Go.Shelf
set_option linter.unusedVariables false
set_option linter.unusedSimpArgs false
theorem commit_two (W : World) (s : Sto) (hs : Sto.At W 0 W.heap.size s) (ha : s.abs.holds) (hw : s.dev.waits.n = 0) (ht : s.ub.txg < 1099511627776) (g : Sl Ob) (hg : Gd 300 g.xs) (hl : Sl.At W 0 W.heap.size Ob.cells (Ob.At W 0 W.heap.size) g) :
    Calls Tryz.prog 20 #[.agg s.cells.toArray, g.val] W fun e w' => ∃ (T : Sto) (AA : Option Addr) (na ca : Nat) (E : Int), e = .returned (.tuple #[.agg T.cells.toArray, .slice AA na ca, .int .i64 E]) ∧ ((E = 17 ∧ g.xs ≠ []) ∨ (E = 0 ∧ T.abs.holds ∧ T.dev.waits.n = 0 ∧ T.ub.txg = s.ub.txg + 1 ∧ T.abs.S.length = s.abs.S.length)) ∧ Sto.At w' W.heap.size w'.heap.size T ∧ Ext W w' := by
  refine (commit_abs W s g hs ha hw hl).mono ?_
  rintro e w' (⟨E, _, hE, rfl, ee⟩ | ⟨nx, acts, A, c, WW, rfl, _, _, _, _, hlaw, hA, ee⟩)
  · rcases hE with ⟨h, _⟩ | ⟨_, rfl, hno⟩
    · exact absurd (hg.right (by decide) ht) h
    · refine ⟨⟨⟨⟨none, 0, 0, []⟩, ⟨none, 0, 0, []⟩⟩, ⟨0, 0, 0⟩, ⟨none, 0, 0, []⟩, ⟨none, 0, 0, []⟩⟩, none, 0, 0, 17, rfl, .inl ⟨rfl, fun h => ?_⟩,
        ⟨⟨⟨rfl, Nat.le_refl _, Nat.zero_le _, Rd.nil, fun _ hh => by cases hh⟩, ⟨rfl, Nat.le_refl _, Nat.zero_le _, Rd.nil, fun _ hh => by cases hh⟩⟩, ⟨by decide, by decide, by decide, by decide, by decide, by decide⟩, ⟨rfl, Nat.le_refl _, Nat.zero_le _, Rd.nil, fun _ hh => by cases hh⟩, ⟨rfl, Nat.le_refl _, Nat.zero_le _, Rd.nil, fun _ hh => by cases hh⟩⟩, ee⟩
      rw [h] at hno
      have h1 := hno _ rfl
      rw [plIdx, if_pos rfl] at h1
      cases h1
  · exact ⟨nx, A, _, c, 0, rfl, .inr ⟨rfl, hlaw.holds, hlaw.wait, hlaw.txg, by rw [hlaw.secs, List.length_set, setV_len]⟩, hA, ee⟩
def MdOut (w : World) (xs : List Ob) (e : Ending) (w' : World) : Prop := ∃ (t : Sto) (ok : Bool), e = .returned (.tuple #[.agg t.cells.toArray, .bool ok]) ∧ (ok = true → t.abs.holds ∧ t.dev.waits.n = 0 ∧ 40 ≤ t.abs.S.length) ∧ (ok = false → ¬ ∀ x ∈ xs.take 6, badG x) ∧ Sto.At w' 0 w'.heap.size t ∧ Ext w w'
set_option maxRecDepth 100000 in
set_option maxHeartbeats 8000000 in
theorem made_any (w : World) (n : Int) (a b : Sl Ob) (hn : (Lit.int .i64 n).wf = true) (ha : Sl.At w 0 w.heap.size Ob.cells (Ob.At w 0 w.heap.size) a) (hb : Sl.At w 0 w.heap.size Ob.cells (Ob.At w 0 w.heap.size) b) :
    Calls Tryz.prog 31 #[.int .i64 n, a.val, b.val] w (MdOut w a.xs) := by
  have h1 : -9223372036854775808 ≤ n ∧ n ≤ 9223372036854775807 := by
    simp only [Lit.wf, Bool.and_eq_true, decide_eq_true_eq] at hn
    exact hn
  have h2 : n.tmod 60 < 60 := Int.tmod_lt_of_pos n (by decide)
  have h3 : -60 < n.tmod 60 := Int.lt_tmod_of_pos n (by decide)
  have HK := Lib.hid (show ∃ k : Nat, (40 + n.tmod 60 % 60) = (k : Int) ∧ 40 ≤ k ∧ k ≤ 99 from ⟨(40 + n.tmod 60 % 60).toNat, by omega, by omega, by omega⟩)
  have HGa := Lib.hid (fun W (hW : Ext w W) => good40_any W a (Sl.At.imp ha (rd_on hW (Nat.le_refl _) _ _) (fun x hx => Ob.At.on hx hW (Nat.le_refl _))))
  have HGb := Lib.hid (fun W (hW : Ext w W) => good40_any W b (Sl.At.imp hb (rd_on hW (Nat.le_refl _) _ _) (fun x hx => Ob.At.on hx hW (Nat.le_refl _))))
  clear ha hb hn
  obtain ⟨aA, an, ac, ax⟩ := a
  obtain ⟨bA, bn, bc, bx⟩ := b
  simp only [Sl.val] at *
  go_enter Tryz.func31, Tryz.ntmps31
  go_upto_region 1 with fail
  generalize hwH : World.alloc w _ = w1; have HH := Lib.hid (Heap.one hwH); clear hwH
  obtain ⟨rb, hrb⟩ : ∃ b, b = w.heap.size := ⟨_, rfl⟩
  rw [← hrb] at HH ⊢
  clear hrb
  go_wp2_with fail
  obtain ⟨k, hk, k1, k2⟩ := HK.out
  rw [hk]
  clear HK hk h1 h2 h3
  refine (fmt_yes w1 k (by omega) (by omega)).mono ?_
  rintro e w2 ⟨s, A, rfl, g1, g2, g3, g4, g5, g6, g7, hS, e2⟩
  have hA : s.abs = fmtA k := by rw [Sto.abs, g1, g5, g6, g7]; rfl
  have hAok : s.abs.ok := by rw [hA]; exact fmtA_ok (by omega) (by omega)
  have HSf := Lib.hid (⟨fmt_holds (w := w2) (lo := 0) (hi := 0) (by omega) (by omega) hA hAok, g2, by rw [show s.ub = _ from g5], by rw [hA]; show 40 ≤ (fmtV k).length; rw [fmtV]; simp; omega⟩ : s.abs.holds ∧ s.dev.waits.n = 0 ∧ s.ub.txg = 2 ∧ 40 ≤ s.abs.S.length)
  obtain ⟨l1, l2, HH2⟩ := show ∃ l1 l2, Heap w [It.look (fun W => Sto.At W l1 l2 s) l1 l2 (fun _ _ hr hh => hh.imp hr), .box rb zSto] w2 from ⟨_, _, HH.out.addLook e2 (J := fun W => Sto.At W w1.heap.size w2.heap.size s) (fun _ _ hr hh => hh.imp hr) (Nat.le_refl _) (Nat.le_refl _) hS⟩
  clear HH hA hAok g1 g2 g3 g4 g5 g6 g7 hS e2
  have HH := Lib.hid HH2
  clear HH2
  simp only [Sto.cells, Dev.cells, Sl.val]
  go_upto_region 2 with (refine shl_store (HH.out.alloc _ _) sizeSto rfl rfl rfl rfl 0 rfl rfl rfl rfl ?_; clear HH; intro wS HHS; have HH := Lib.hid HHS; clear HHS)
  obtain ⟨s8, hs8⟩ : ∃ b, b = w2.heap.size := ⟨_, rfl⟩
  rw [← hs8] at HH ⊢
  clear hs8
  have HHd := Lib.hid (show Heap w [.box s8 [.slice s.dev.secs.A s.dev.secs.n s.dev.secs.c, .slice s.dev.waits.A s.dev.waits.n s.dev.waits.c, .int .i64 s.ub.txg, .int .i64 s.ub.first, .int .i64 s.ub.objs, .slice s.objs.A s.objs.n s.objs.c, .slice s.idx.A s.idx.n s.idx.c], It.look (fun W => Sto.At W l1 l2 s) l1 l2 (fun _ _ hr hh => hh.imp hr), .box rb zSto] (World.drew wS) from HH.out.drew)
  clear HH
  have HCm := Lib.hid (fun (W : World) (its : List It) (i : Nat) (hH : Heap w its W) (hi : its[i]? = some (It.look (fun W => Sto.At W l1 l2 s) l1 l2 (fun _ _ hr hh => hh.imp hr))) (g : Sl Ob) (hg : Gd 300 g.xs) (hl : Sl.At W 0 W.heap.size Ob.cells (Ob.At W 0 W.heap.size) g) =>
    commit_two W s ((hH.lookAt i hi).2.imp fun _ _ hr => hr.more (Nat.zero_le _) (hH.lookAt i hi).1) HSf.out.1 HSf.out.2.1 (by rw [HSf.out.2.2.1]; decide) g hg hl)
  refine rgnM (fun k => Nat.beq k 0 || Nat.beq k 2 || Nat.beq k 3) (S := Heap w [.box s8 [.slice s.dev.secs.A s.dev.secs.n s.dev.secs.c, .slice s.dev.waits.A s.dev.waits.n s.dev.waits.c, .int .i64 s.ub.txg, .int .i64 s.ub.first, .int .i64 s.ub.objs, .slice s.objs.A s.objs.n s.objs.c, .slice s.idx.A s.idx.n s.idx.c]]) (by kernel_rfl) (HHd.out.only 0 rfl) (fun hHeld => ?_)
  generalize World.drew _ = wd at *
  refine mG 0 rfl (fun wT hST => sh_run_load hST sizeSto (by kernel_rfl) rfl rfl 0 rfl (Nat.le_of_ble_eq_true rfl)) hHeld ?_
  (try simp only [Act.put, lyA, lyB, lyC])
  refine pureM 1 (v := ?_) rfl (by kernel_rfl) (by kernel_rfl) (by kernel_rfl) (by kernel_rfl) (fun _ _ _ h => h) (by kernel_rfl) ?_ (fun _ => by assumption) ?_; rotate_left; (focus (intro w; go_simp <;> with_reducible rfl)); (try simp only [Act.put, lyA, lyB, lyC])
  clear hHeld
  refine oneM 2 rfl (by kernel_rfl) (by kernel_rfl) (fun K hK => ?_); (try go_simp)
  refine (HGa.out _ HHd.out.ext).mono ?_
  rintro e w4 ⟨ga, rfl, hga, hge, gaat, e4⟩
  have HH4 := Lib.hid (HHd.out.later e4)
  clear HHd HGa e4
  simp only [Sl.val]
  go_wp2_with fail
  refine hK.out _ _ (HH4.out.only 0 rfl) (fun hHeld => ?_)
  clear hK K
  (try simp only [Act.put, lyA, lyB, lyC])
  clear hHeld
  refine freeM 3 rfl (by kernel_rfl) (by kernel_rfl) (by kernel_rfl) (fun K hK => ?_); (try go_simp)
  refine (HCm.out _ _ 1 HH4.out rfl ga hga gaat).mono ?_
  rintro e w5 ⟨T, AA, na, ca, E, rfl, hE, hT, e5⟩
  obtain ⟨m1, m2, HH2⟩ := show ∃ m1 m2, Heap w [It.look (fun W => Sto.At W m1 m2 T) m1 m2 (fun _ _ hr hh => hh.imp hr), .box s8 [.slice s.dev.secs.A s.dev.secs.n s.dev.secs.c, .slice s.dev.waits.A s.dev.waits.n s.dev.waits.c, .int .i64 s.ub.txg, .int .i64 s.ub.first, .int .i64 s.ub.objs, .slice s.objs.A s.objs.n s.objs.c, .slice s.idx.A s.idx.n s.idx.c], It.look (fun W => Sto.At W l1 l2 s) l1 l2 (fun _ _ hr hh => hh.imp hr), .box rb zSto] w5 from ⟨_, _, HH4.out.addLook e5 (J := fun W => Sto.At W w4.heap.size w5.heap.size T) (fun _ _ hr hh => hh.imp hr) (Nat.le_refl _) (Nat.le_refl _) hT⟩
  have HE := Lib.hid (show (E = 17 ∧ ¬ ∀ x ∈ ax.take 6, badG x) ∨ (E = 0 ∧ T.abs.holds ∧ T.dev.waits.n = 0 ∧ T.ub.txg < 1099511627776 ∧ 40 ≤ T.abs.S.length) from hE.imp (fun h => ⟨h.1, fun hh => h.2 (hge.2 hh)⟩) (fun h => ⟨h.1, h.2.1, h.2.2.1, by rw [h.2.2.2.1, HSf.out.2.2.1]; decide, by rw [h.2.2.2.2]; exact HSf.out.2.2.2⟩))
  clear HH4 HCm hE hT e5 hga hge gaat HSf
  have HH5 := Lib.hid HH2
  clear HH2
  simp only [Sto.cells, Dev.cells, Sl.val]
  go_wp2_with fail
  refine hK.out _ _ ?_; clear hK K; (try simp only [Act.put, lyA, lyB, lyC])
  refine pureM 4 (v := ?_) rfl (by kernel_rfl) (by kernel_rfl) (by kernel_rfl) (by kernel_rfl) (fun _ _ _ h => h) (by kernel_rfl) ?_ (fun h => absurd h (no_more (by kernel_rfl))) ?_; rotate_left; (focus (intro w; go_simp <;> with_reducible rfl)); (try simp only [Act.put, lyA, lyB, lyC])
  refine pureM 5 (v := ?_) rfl (by kernel_rfl) (by kernel_rfl) (by kernel_rfl) (by kernel_rfl) (fun _ _ _ h => h) (by kernel_rfl) ?_ (fun h => absurd h (no_more (by kernel_rfl))) ?_; rotate_left; (focus (intro w; go_simp <;> with_reducible rfl)); (try simp only [Act.put, lyA, lyB, lyC])
  refine pureM 6 (v := ?_) rfl (by kernel_rfl) (by kernel_rfl) (by kernel_rfl) (by kernel_rfl) (fun _ _ _ h => h) (by kernel_rfl) ?_ (fun h => absurd h (no_more (by kernel_rfl))) ?_; rotate_left; (focus (intro w; go_simp <;> with_reducible rfl)); (try simp only [Act.put, lyA, lyB, lyC])
  refine pureM 7 (v := ?_) rfl (by kernel_rfl) (by kernel_rfl) (by kernel_rfl) (by kernel_rfl) (fun _ _ _ h => h) (by kernel_rfl) ?_ (fun h => absurd h (no_more (by kernel_rfl))) ?_; rotate_left; (focus (intro w; go_simp <;> with_reducible rfl)); (try simp only [Act.put, lyA, lyB, lyC])
  refine freeM 8 rfl (by kernel_rfl) (by kernel_rfl) (by kernel_rfl) (fun K hK => ?_)
  refine sh_store HH5.out sizeSto rfl rfl rfl 1 rfl rfl (Nat.le_of_ble_eq_true rfl) rfl ?_
  intro w6 hh6
  have HH := Lib.hid (show Heap w [It.look (fun W => Sto.At W m1 m2 T) m1 m2 (fun _ _ hr hh => hh.imp hr), .box s8 [.slice T.dev.secs.A T.dev.secs.n T.dev.secs.c, .slice T.dev.waits.A T.dev.waits.n T.dev.waits.c, .int .i64 T.ub.txg, .int .i64 T.ub.first, .int .i64 T.ub.objs, .slice T.objs.A T.objs.n T.objs.c, .slice T.idx.A T.idx.n T.idx.c], It.look (fun W => Sto.At W l1 l2 s) l1 l2 (fun _ _ hr hh => hh.imp hr), .box rb zSto] w6 from hh6)
  clear hh6 HH5
  refine hK.out _ _ ?_; clear hK K; (try simp only [Act.put, lyA, lyB, lyC])
  refine pureM 9 (v := ?_) rfl (by kernel_rfl) (by kernel_rfl) (by kernel_rfl) (by kernel_rfl) (fun _ _ _ h => h) (by kernel_rfl) ?_ (fun h => absurd h (no_more (by kernel_rfl))) ?_; rotate_left; (focus (intro w; go_simp <;> with_reducible rfl)); (try simp only [Act.put, lyA, lyB, lyC])
  refine pureM 10 (v := ?_) rfl (by kernel_rfl) (by kernel_rfl) (by kernel_rfl) (by kernel_rfl) (fun _ _ _ h => h) (by kernel_rfl) ?_ (fun h => absurd h (no_more (by kernel_rfl))) ?_; rotate_left; (focus (intro w; go_simp <;> with_reducible rfl)); (try simp only [Act.put, lyA, lyB, lyC])
  refine doneM (by kernel_rfl) ?_
  have HTA := Lib.hid (fun (W : World) (x : It) (its : List It) (hH : Heap w (It.look (fun W => Sto.At W m1 m2 T) m1 m2 (fun _ _ hr hh => hh.imp hr) :: x :: its) W) => show Sto.At W 0 W.heap.size T from (hH.lookAt 0 rfl).2.imp fun _ _ hr => hr.more (Nat.zero_le _) (hH.lookAt 0 rfl).1)
  rcases HE.out with ⟨rfl, hne⟩ | ⟨rfl, h1, h2, h3, h4⟩
  · have HNe := Lib.hid hne
    clear hne HE HGb
    go_wp2_with (first | (refine shl_load HH.out sizeSto (by kernel_rfl) rfl rfl rfl 1 rfl rfl ?_) | (refine shl_store HH.out sizeSto rfl rfl rfl rfl 3 rfl rfl rfl rfl ?_; clear HH; intro wS HHS; have HH := Lib.hid HHS; clear HHS))
    refine ret_cell2 sizeSto (by kernel_rfl) HH.out rfl rfl rfl 3 rfl rfl rfl ?_
    exact ⟨T, false, rfl, (fun h => by cases h), fun _ => HNe.out, HTA.out _ _ _ HH.out, HH.out.ext⟩
  · have HT := Lib.hid (show T.abs.holds ∧ T.dev.waits.n = 0 ∧ T.ub.txg < 1099511627776 ∧ 40 ≤ T.abs.S.length from ⟨h1, h2, h3, h4⟩)
    clear h1 h2 h3 h4 HE
    have HCm := Lib.hid (fun (W : World) (hW : Sto.At W 0 W.heap.size T) (g : Sl Ob) (hg : Gd 300 g.xs) (hl : Sl.At W 0 W.heap.size Ob.cells (Ob.At W 0 W.heap.size) g) => commit_two W T hW HT.out.1 HT.out.2.1 HT.out.2.2.1 g hg hl)
    simp only [Sto.cells, Dev.cells, Sl.val] at HCm
    go_upto_region 5 with fail
    go_cut [12, 13, 14] from 40 to 47 (fun v12 v13 v14 wx => ∃ (tb : Nat) (U : Sto) (u1 u2 : Nat) (E : Int), v12 = .int .i64 E ∧ v13 = .pointer (some ⟨tb, 0, none⟩) ∧ Hid (E = 17 ∨ E = 0 ∧ U.abs.holds ∧ U.dev.waits.n = 0 ∧ 40 ≤ U.abs.S.length) ∧ Hid (Heap w [It.look (fun W => Sto.At W m1 m2 T) m1 m2 (fun _ _ hr hh => hh.imp hr), .box s8 [.slice T.dev.secs.A T.dev.secs.n T.dev.secs.c, .slice T.dev.waits.A T.dev.waits.n T.dev.waits.c, .int .i64 T.ub.txg, .int .i64 T.ub.first, .int .i64 T.ub.objs, .slice T.objs.A T.objs.n T.objs.c, .slice T.idx.A T.idx.n T.idx.c], It.look (fun W => Sto.At W l1 l2 s) l1 l2 (fun _ _ hr hh => hh.imp hr), .box rb zSto, .box tb [.slice U.dev.secs.A U.dev.secs.n U.dev.secs.c, .slice U.dev.waits.A U.dev.waits.n U.dev.waits.c, .int .i64 U.ub.txg, .int .i64 U.ub.first, .int .i64 U.ub.objs, .slice U.objs.A U.objs.n U.objs.c, .slice U.idx.A U.idx.n U.idx.c], It.look (fun W => Sto.At W u1 u2 U) u1 u2 (fun _ _ hr hh => hh.imp hr)] wx))
    case first =>
      refine wp_noP ?_
      have HHd := Lib.hid HH.out.drew
      clear HH
      refine wp_region_held_drew (S := Heap w [.box s8 [.slice T.dev.secs.A T.dev.secs.n T.dev.secs.c, .slice T.dev.waits.A T.dev.waits.n T.dev.waits.c, .int .i64 T.ub.txg, .int .i64 T.ub.first, .int .i64 T.ub.objs, .slice T.objs.A T.objs.n T.objs.c, .slice T.idx.A T.idx.n T.idx.c]]) (by kernel_rfl) (HHd.out.only 1 rfl) (fun hHeld => ?_)
      generalize World.drew _ = wd at *
      refine tG 0 rfl (fun wT hST => sh_run_load hST sizeSto (by kernel_rfl) rfl rfl 0 rfl (Nat.le_of_ble_eq_true rfl)) hHeld ?_; (try simp only [Act.put, lyA, lyB, lyC])
      refine tS 1 ?_; (try simp only [Act.put, lyA, lyB, lyC])
      clear hHeld
      refine twoH 2 8 rfl rfl (by kernel_rfl) (by kernel_rfl) (by kernel_rfl) (fun K hK => ?_) (fun K hK => ?_)
      · go_simp
        refine (HGb.out _ HHd.out.ext).mono ?_
        rintro e w4 ⟨gb, rfl, hgb, _, gbat, e4⟩
        have HH4 := Lib.hid (HHd.out.later e4)
        have HGB := Lib.hid (fun W (hW : Ext w4 W) => show Sl.At W 0 W.heap.size Ob.cells (Ob.At W 0 W.heap.size) gb from Sl.At.imp gbat (rd_on hW (Nat.le_refl _) _ _) (fun x hx => Ob.At.on hx hW (Nat.le_refl _)))
        have HW4 := Lib.hid (Ext.refl w4)
        clear HHd e4
        simp only [Sl.val]
        go_wp2_with fail
        refine hK.out _ _ (HH4.out.only 1 rfl) (fun hHeld => ?_)
        clear hK K
        (try simp only [Act.put, lyA, lyB, lyC])
        clear hHeld
        refine twoH 3 8 rfl rfl (by kernel_rfl) (by kernel_rfl) (by kernel_rfl) (fun K hK => ?_) (fun K hK => ?_)
        · go_simp
          refine (HCm.out _ (HTA.out _ _ _ HH4.out) gb hgb (HGB.out _ (Ext.refl _))).mono ?_
          rintro e w8 ⟨U, AA2, na2, ca2, E2, rfl, hE2, hU, e8⟩
          obtain ⟨u1, u2, HHt⟩ := show ∃ u1 u2, Heap w (It.look (fun W => Sto.At W u1 u2 U) u1 u2 (fun _ _ hr hh => hh.imp hr) :: [It.look (fun W => Sto.At W m1 m2 T) m1 m2 (fun _ _ hr hh => hh.imp hr), .box s8 [.slice T.dev.secs.A T.dev.secs.n T.dev.secs.c, .slice T.dev.waits.A T.dev.waits.n T.dev.waits.c, .int .i64 T.ub.txg, .int .i64 T.ub.first, .int .i64 T.ub.objs, .slice T.objs.A T.objs.n T.objs.c, .slice T.idx.A T.idx.n T.idx.c], It.look (fun W => Sto.At W l1 l2 s) l1 l2 (fun _ _ hr hh => hh.imp hr), .box rb zSto]) w8 from ⟨_, _, HH4.out.addLook e8 (fun _ _ hr hh => hh.imp hr) (Nat.le_refl _) (Nat.le_refl _) hU⟩
          have HH8 := Lib.hid HHt
          have HE2 := Lib.hid (show E2 = 17 ∨ E2 = 0 ∧ U.abs.holds ∧ U.dev.waits.n = 0 ∧ 40 ≤ U.abs.S.length from hE2.imp (fun h => h.1) (fun h => ⟨h.1, h.2.1, h.2.2.1, by rw [h.2.2.2.2]; exact HT.out.2.2.2⟩))
          clear HHt HH4 hE2 hU e8
          simp only [Sto.cells, Dev.cells, Sl.val]
          go_wp2_with fail
          refine hK.out _ _ (HH8.out.only 2 rfl) (fun hHeld => ?_)
          clear hK K
          (try simp only [Act.put, lyA, lyB, lyC])
          refine tS 4 ?_; (try simp only [Act.put, lyA, lyB, lyC])
          refine tS 5 ?_; (try simp only [Act.put, lyA, lyB, lyC])
          refine tS 6 ?_; (try simp only [Act.put, lyA, lyB, lyC])
          refine tS 7 ?_; (try simp only [Act.put, lyA, lyB, lyC])
          clear hHeld
          refine oS 8 (fun K hK => ?_)
          go_simp
          generalize hwA : World.alloc _ _ = w7
          have HH7 := Lib.hid (HH8.out.allocE hwA)
          clear HH8
          refine hK.out _ _ (HH7.out.only 3 rfl) (fun hHeld => ?_)
          clear hK K hHeld
          (try simp only [Act.put, lyA, lyB, lyC])
          refine oS 9 (fun K hK => ?_)
          refine sh_store HH7.out sizeSto rfl rfl rfl 0 rfl rfl (Nat.le_of_ble_eq_true rfl) rfl ?_
          intro w9 hh9
          have HH9 := Lib.hid hh9
          clear hh9 HH7
          refine hK.out _ _ (HH9.out.only 3 rfl) (fun hHeld => ?_)
          clear hK K
          (try simp only [Act.put, lyA, lyB, lyC])
          refine tS 10 ?_; (try simp only [Act.put, lyA, lyB, lyC])
          refine tS 11 ?_; (try simp only [Act.put, lyA, lyB, lyC])
          refine wpAnyH_done (by kernel_rfl) ?_ _
          simp only [noP]
          clear hHeld
          go_wp2_with fail
          go_meet
          exact ⟨_, U, u1, u2, _, rfl, rfl, HE2, Lib.hid (HH9.out.pick [2, 3, 4, 5, 0, 1] (by decide) rfl rfl)⟩
        · go_simp
          generalize hwA : World.alloc _ _ = w7
          have HH7 := Lib.hid (HH4.out.allocE hwA)
          have hE7 := HH4.out
          have HW7 := Lib.hid (show Ext w4 w7 by rw [← hwA]; exact (Ext.refl w4).alloc _)
          clear HH4 hE7 hwA
          refine hK.out _ _ (HH7.out.only 2 rfl) (fun hHeld => ?_)
          clear hK K hHeld
          (try simp only [Act.put, lyA, lyB, lyC])
          refine oS 3 (fun K hK => ?_)
          go_simp
          refine (HCm.out _ (HTA.out _ _ _ HH7.out.tail) gb hgb (HGB.out _ HW7.out)).mono ?_
          rintro e w8 ⟨U, AA2, na2, ca2, E2, rfl, hE2, hU, e8⟩
          obtain ⟨u1, u2, HHt⟩ := show ∃ u1 u2, Heap w (It.look (fun W => Sto.At W u1 u2 U) u1 u2 (fun _ _ hr hh => hh.imp hr) :: _) w8 from ⟨_, _, HH7.out.addLook e8 (fun _ _ hr hh => hh.imp hr) (Nat.le_refl _) (Nat.le_refl _) hU⟩
          have HH8 := Lib.hid HHt
          have HE2 := Lib.hid (show E2 = 17 ∨ E2 = 0 ∧ U.abs.holds ∧ U.dev.waits.n = 0 ∧ 40 ≤ U.abs.S.length from hE2.imp (fun h => h.1) (fun h => ⟨h.1, h.2.1, h.2.2.1, by rw [h.2.2.2.2]; exact HT.out.2.2.2⟩))
          clear HHt HH7 hE2 hU e8
          simp only [Sto.cells, Dev.cells, Sl.val]
          go_wp2_with fail
          refine hK.out _ _ (HH8.out.only 3 rfl) (fun hHeld => ?_)
          clear hK K
          (try simp only [Act.put, lyA, lyB, lyC])
          refine tS 4 ?_; (try simp only [Act.put, lyA, lyB, lyC])
          refine tS 5 ?_; (try simp only [Act.put, lyA, lyB, lyC])
          refine tS 6 ?_; (try simp only [Act.put, lyA, lyB, lyC])
          refine tS 7 ?_; (try simp only [Act.put, lyA, lyB, lyC])
          clear hHeld
          refine oS 9 (fun K hK => ?_)
          refine sh_store HH8.out sizeSto rfl rfl rfl 1 rfl rfl (Nat.le_of_ble_eq_true rfl) rfl ?_
          intro w9 hh9
          have HH9 := Lib.hid hh9
          clear hh9 HH8
          refine hK.out _ _ (HH9.out.only 3 rfl) (fun hHeld => ?_)
          clear hK K
          (try simp only [Act.put, lyA, lyB, lyC])
          refine tS 10 ?_; (try simp only [Act.put, lyA, lyB, lyC])
          refine tS 11 ?_; (try simp only [Act.put, lyA, lyB, lyC])
          refine wpAnyH_done (by kernel_rfl) ?_ _
          simp only [noP]
          clear hHeld
          go_wp2_with fail
          go_meet
          exact ⟨_, U, u1, u2, _, rfl, rfl, HE2, Lib.hid (HH9.out.pick [2, 3, 4, 5, 1, 0] (by decide) rfl rfl)⟩
      · go_simp
        generalize hwA : World.alloc _ _ = w7
        have HH7 := Lib.hid (HHd.out.allocE hwA)
        clear HHd
        refine hK.out _ _ (HH7.out.only 2 rfl) (fun hHeld => ?_)
        clear hK K hHeld
        (try simp only [Act.put, lyA, lyB, lyC])
        refine oS 2 (fun K hK => ?_)
        go_simp
        refine (HGb.out _ HH7.out.ext).mono ?_
        rintro e w4 ⟨gb, rfl, hgb, _, gbat, e4⟩
        have HH4 := Lib.hid (HH7.out.later e4)
        have HGB := Lib.hid (fun W (hW : Ext w4 W) => show Sl.At W 0 W.heap.size Ob.cells (Ob.At W 0 W.heap.size) gb from Sl.At.imp gbat (rd_on hW (Nat.le_refl _) _ _) (fun x hx => Ob.At.on hx hW (Nat.le_refl _)))
        have HW4 := Lib.hid (Ext.refl w4)
        clear HH7 e4
        simp only [Sl.val]
        go_wp2_with fail
        refine hK.out _ _ (HH4.out.only 2 rfl) (fun hHeld => ?_)
        clear hK K
        (try simp only [Act.put, lyA, lyB, lyC])
        clear hHeld
        refine oS 3 (fun K hK => ?_)
        go_simp
        refine (HCm.out _ (HTA.out _ _ _ HH4.out.tail) gb hgb (HGB.out _ (Ext.refl _))).mono ?_
        rintro e w8 ⟨U, AA2, na2, ca2, E2, rfl, hE2, hU, e8⟩
        obtain ⟨u1, u2, HHt⟩ := show ∃ u1 u2, Heap w (It.look (fun W => Sto.At W u1 u2 U) u1 u2 (fun _ _ hr hh => hh.imp hr) :: _) w8 from ⟨_, _, HH4.out.addLook e8 (fun _ _ hr hh => hh.imp hr) (Nat.le_refl _) (Nat.le_refl _) hU⟩
        have HH8 := Lib.hid HHt
        have HE2 := Lib.hid (show E2 = 17 ∨ E2 = 0 ∧ U.abs.holds ∧ U.dev.waits.n = 0 ∧ 40 ≤ U.abs.S.length from hE2.imp (fun h => h.1) (fun h => ⟨h.1, h.2.1, h.2.2.1, by rw [h.2.2.2.2]; exact HT.out.2.2.2⟩))
        clear HHt HH4 hE2 hU e8
        simp only [Sto.cells, Dev.cells, Sl.val]
        go_wp2_with fail
        refine hK.out _ _ (HH8.out.only 3 rfl) (fun hHeld => ?_)
        clear hK K
        (try simp only [Act.put, lyA, lyB, lyC])
        refine tS 4 ?_; (try simp only [Act.put, lyA, lyB, lyC])
        refine tS 5 ?_; (try simp only [Act.put, lyA, lyB, lyC])
        refine tS 6 ?_; (try simp only [Act.put, lyA, lyB, lyC])
        refine tS 7 ?_; (try simp only [Act.put, lyA, lyB, lyC])
        clear hHeld
        refine oS 9 (fun K hK => ?_)
        refine sh_store HH8.out sizeSto rfl rfl rfl 1 rfl rfl (Nat.le_of_ble_eq_true rfl) rfl ?_
        intro w9 hh9
        have HH9 := Lib.hid hh9
        clear hh9 HH8
        refine hK.out _ _ (HH9.out.only 3 rfl) (fun hHeld => ?_)
        clear hK K
        (try simp only [Act.put, lyA, lyB, lyC])
        refine tS 10 ?_; (try simp only [Act.put, lyA, lyB, lyC])
        refine tS 11 ?_; (try simp only [Act.put, lyA, lyB, lyC])
        refine wpAnyH_done (by kernel_rfl) ?_ _
        simp only [noP]
        clear hHeld
        go_wp2_with fail
        go_meet
        exact ⟨_, U, u1, u2, _, rfl, rfl, HE2, Lib.hid (HH9.out.pick [2, 3, 4, 5, 1, 0] (by decide) rfl rfl)⟩
    case rest =>
      clear HH HCm HGb
      obtain ⟨tb, U, u1, u2, E, rfl, rfl, HE, HH⟩ := hcut
      rcases HE.out with rfl | ⟨rfl, h1, h2, h4⟩
      · go_wp2_with (first | (refine shl_load HH.out sizeSto (by kernel_rfl) rfl rfl rfl 1 rfl rfl ?_) | (refine shl_store HH.out sizeSto rfl rfl rfl rfl 3 rfl rfl rfl rfl ?_; clear HH; intro wS HHS; have HH := Lib.hid HHS; clear HHS))
        refine ret_cell2 sizeSto (by kernel_rfl) HH.out rfl rfl rfl 3 rfl rfl rfl ?_
        exact ⟨T, true, rfl, fun _ => ⟨HT.out.1, HT.out.2.1, HT.out.2.2.2⟩, (fun h => by cases h), HTA.out _ _ _ HH.out, HH.out.ext⟩
      · have HU := Lib.hid (⟨h1, h2, h4⟩ : U.abs.holds ∧ U.dev.waits.n = 0 ∧ 40 ≤ U.abs.S.length)
        clear h1 h2 h4
        go_wp2_with (first | (refine shl_load HH.out sizeSto (by kernel_rfl) rfl rfl rfl 4 rfl rfl ?_) | (refine shl_store HH.out sizeSto rfl rfl rfl rfl 3 rfl rfl rfl rfl ?_; clear HH; intro wS HHS; have HH := Lib.hid HHS; clear HHS))
        refine ret_cell2 sizeSto (by kernel_rfl) HH.out rfl rfl rfl 3 rfl rfl rfl ?_
        exact ⟨U, true, rfl, fun _ => HU.out, (fun h => by cases h), (HH.out.lookAt 5 rfl).2.imp fun _ _ hr => hr.more (Nat.zero_le _) (HH.out.lookAt 5 rfl).1, HH.out.ext⟩
end Go.Proofs.YtfongpdeflfioaaGreat
/- scrub.Pages. -/
namespace Go.Proofs.YtfongpdeflfioaaGreat
open Go.RowKit Go.Maps Go.Sort Go.Shelf
set_option linter.unusedVariables false
set_option linter.unusedSimpArgs false
theorem infoL : (Tryz.prog.info? 29).map (fun i => (i.zero, i.size, i.bytes)) = some (some (.slice none 0 0), 1, 24) := by kernel_rfl
def toI (s : Loc) : SlI := ⟨s.A, s.n, s.c, s.xs⟩
def locsV (l : List Ob) : List SlI := l.map fun x => toI x.locs
theorem locsV_take (l : List Ob) (k : Nat) (h : k < l.length) : locsV (l.take (k + 1)) = locsV (l.take k) ++ [toI l[k].locs] := by
  rw [List.take_succ_eq_append_getElem h, locsV, List.map_append]; simp [locsV]
theorem locsV_flat (l : List Ob) : flatI (locsV l) = locsL l := by
  rw [flatI, locsV, List.flatMap_map]; rfl
theorem loc_ok {w : World} {s : Loc} (h : Loc.At w 0 w.heap.size s) : (toI s).ok w := ⟨h.len, h.rdi, h.all⟩
set_option maxRecDepth 100000 in
set_option maxHeartbeats 4000000 in
theorem pages_any (w : World) (s : Sto) (h : Sto.At w 0 w.heap.size s) (hs : s.small) (hlt9 : s.objs.n ≤ 9000000) : Calls Tryz.prog 10 #[.agg s.cells.toArray] w fun e w' => ∃ v, e = .returned v ∧ w'.ownsRow w.heap.size 3 1 v (uni (usedL s)).length (ints (uni (usedL s))) ∧ Ext w w' := by
  obtain ⟨i0, hi0, hz0, hz1, hz2⟩ := info_parts infoL
  have HR := Lib.hid h.objs.rd
  have Hn := Lib.hid h.objs.len
  have HA := Lib.hid h.objs.all
  have hm := hlt9
  have HI := Lib.hid h.idx
  have HU := Lib.hid (show usedL s = s.idx.xs ++ locsL s.objs.xs from rfl)
  have HT := Lib.hid hs.used
  clear h hs hlt9
  generalize usedL s = U at *
  obtain ⟨dev, ub, ⟨A, n, c, xs⟩, ix⟩ := s
  simp only [Sto.cells, Sl.val] at *
  go_enter Tryz.func10, Tryz.ntmps10
  go_upto_region 1 with fail
  generalize hwH : World.alloc w _ = w1; have HH := Lib.hid (Heap.one hwH); clear hwH
  go_upto_region 2 with (first | (refine shl_load1 HH.out rfl rfl rfl 0 rfl rfl (by decide +kernel) ?_))
  generalize hwA : World.alloc w1 _ = w2
  have HH2 := Lib.hid (HH.out.allocRow hwA (n := 1) (size := 1) rfl (by decide))
  clear HH hwA
  have HH := HH2
  clear HH2
  go_upto_region 3 with (first | (refine shl_load1 HH.out rfl rfl rfl 1 rfl rfl (by decide +kernel) ?_))
  have HH2 := Lib.hid (HH.out.only 0 rfl)
  clear HH
  have HH := HH2
  clear HH2
  go_loopw [3, 12] (fun v i wr => ∃ k : Nat, k ≤ n ∧ i = .int .i64 k ∧ (∃ vA vc, v = .slice vA (k + 1) vc ∧ Hid (Heap w [.row 29 1 (.slice vA (k + 1) vc) (k + 1) ((toI ix :: locsV (xs.take k)).map SlI.val)] wr))) (fun _ i _ => n - (intOf i).toNat)
  case atStart => exact ⟨0, Nat.zero_le _, rfl, _, _, rfl, HH⟩
  case round =>
    clear HH
    obtain ⟨k, hk, rfl, vA, vc, rfl, HH⟩ := hrel
    by_cases hlt : k < n
    · have l1 : k < xs.length := by rw [← Hn.out]; exact hlt
      obtain ⟨b1, o1, rfl, hb1, f0, f1, f2⟩ := rd_ob (HR.out.ext HH.out.ext (Nat.le_refl _)) l1
      have HS := Lib.hid (locsV_take xs k l1)
      generalize locsV (xs.take k) = Y at *
      generalize xs[k] = x at *
      obtain ⟨key, ⟨dA, dn, dc, dx⟩, ⟨lA, ln, lc, lx⟩⟩ := x
      simp only [Sl.val] at f1 f2
      dsimp only at f0
      go_upto_region 5 with fail
      generalize hwH : World.alloc wr _ = w5
      have HH2 := Lib.hid (HH.out.allocE hwH)
      clear HH hwH f0 f1 f2
      have HH := HH2
      clear HH2
      (iterate 60 (first | (refine shl_load1 HH.out rfl rfl rfl 0 rfl rfl (by decide +kernel) ?_) | at_builtin | go_step))
      generalize hwA : World.alloc w5 _ = w6
      have HH2 := Lib.hid (HH.out.allocE hwA)
      clear HH hwA
      have HH := HH2
      clear HH2
      refine shl_app (e := 29) (size := 1) (bytes := 24) (news := [.slice lA ln lc]) (lo := w.heap.size) (.tmp 16) (.tmp 19) _ rfl rfl Tryz.underlying72 hi0 hz0 hz1 hz2 rfl (by omega) HH.out 2 rfl rfl (m := 1) rfl rfl (HH.out.boxRd 0 rfl) (by simp [Value.oneCell']) (by simp only [maxLen]; omega) (by omega) ?_
      intro v7 w7 hh7 h7
      obtain ⟨A7, c7, rfl⟩ := h7
      have HH7 := Lib.hid (hh7.only 2 rfl)
      clear HH hh7
      go_wp2_with fail
      go_roundw
      case rel =>
        refine ⟨k + 1, by omega, by go_num, A7, c7, rfl, ?_⟩
        have h := HH7.out
        rw [HS.out]
        exact Lib.hid (by simpa [SlI.val, toI] using h)
      case measure => simp [intOf]; omega
    · obtain rfl : k = n := by omega
      have ht : xs.take k = xs := List.take_of_length_le (by rw [← Hn.out]; exact Nat.le_refl _)
      rw [ht] at HH
      have hfl : flatI (toI ix :: locsV xs) = U := by
        rw [HU.out, flatI, List.flatMap_cons]
        show (toI ix).l ++ flatI (locsV xs) = _
        rw [locsV_flat]
        rfl
      have HC := Lib.hid (union_any wr vA (k + 1) vc (toI ix :: locsV xs) (by simp [locsV]; exact Hn.out) (by omega) ((HH.out.rowRd 0 rfl).m0) (fun q hq => by
        rcases List.mem_cons.1 hq with rfl | hq
        · exact (loc_ok HI.out).ext HH.out.ext
        · obtain ⟨x, hx, rfl⟩ := List.mem_map.1 hq
          exact (loc_ok (HA.out x hx).locs).ext HH.out.ext) (by rw [hfl]; exact HT.out))
      rw [hfl] at HC
      clear ht hfl
      go_wp2_with (go_at_call 33; refine HC.out.mono ?_; rintro e w5 ⟨v, rfl, hr, e5⟩; have HO := Lib.hid (own_lower hr HH.out.ext.size); clear hr)
      go_ret
      exact ⟨v, rfl, HO.out, HH.out.ext.trans e5⟩
end Go.Proofs.YtfongpdeflfioaaGreat
/- scrub's note: a sector is good, or one of the bad. -/
namespace Go.Proofs.YtfongpdeflfioaaGreat
open Go.RowKit Go.Maps Go.Sort Go.Shelf
set_option linter.unusedVariables false
set_option linter.unusedSimpArgs false
abbrev KB (kb : Nat) (s0 s1 s2 s3 s4 s5 s6 : Value) (g : Int) (bv : Value) (st fr : Int) : It := .box kb [s0, s1, s2, s3, s4, s5, s6, .int .i64 g, bv, .int .i64 st, .int .i64 fr]
set_option maxRecDepth 100000 in
set_option maxHeartbeats 4000000 in
theorem note_ok {w0 w : World} {its : List It} (H : Heap w0 its w) (kb : Nat) (s0 s1 s2 s3 s4 s5 s6 : Value) (g : Int) (bv : Value) (st fr at_ : Int) (i : Nat) (hi : its[i]? = some (KB kb s0 s1 s2 s3 s4 s5 s6 g bv st fr)) (h0 : 0 ≤ g) (h1 : g ≤ 1000000000) :
    Calls Tryz.prog 77 #[.pointer (some ⟨kb, 0, none⟩), .int .i64 at_, .bool true] w fun e w' => (∃ v, e = .returned v) ∧ Heap w0 (its.set i (KB kb s0 s1 s2 s3 s4 s5 s6 (g + 1) bv st fr)) w' := by
  have HH := Lib.hid H
  have HI := Lib.hid hi
  clear H hi
  go_enter Tryz.func77, Tryz.ntmps77
  go_wp2_with (first | (refine shl_load1 HH.out rfl rfl rfl (i) (HI.out) rfl (by decide +kernel) ?_) | (refine shl_store1 HH.out rfl rfl rfl rfl (i) (HI.out) rfl rfl (by kernel_rfl) ?_; clear HH; intro wS HHS; have HH := Lib.hid HHS; clear HHS))
  refine bodyPost_ret (results_none rfl _ _ _) rfl ?_
  exact ⟨⟨_, rfl⟩, HH.out⟩
set_option maxRecDepth 100000 in
set_option maxHeartbeats 4000000 in
theorem note_bad {w0 w : World} {its : List It} (H : Heap w0 its w) (kb : Nat) (s0 s1 s2 s3 s4 s5 s6 : Value) (g : Int) (bv : Value) (st fr at_ : Int) (nb : Nat) (bads : List Int) (i j : Nat) (hij : i ≠ j) (hi : its[i]? = some (KB kb s0 s1 s2 s3 s4 s5 s6 g bv st fr)) (hj : its[j]? = some (.row 3 1 bv nb (ints bads))) (hn : nb ≤ 100000000) :
    Calls Tryz.prog 77 #[.pointer (some ⟨kb, 0, none⟩), .int .i64 at_, .bool false] w fun e w' => (∃ v, e = .returned v) ∧ ∃ bv', Heap w0 ((its.set j (.row 3 1 bv' (nb + 1) (ints (bads ++ [at_])))).set i (KB kb s0 s1 s2 s3 s4 s5 s6 g bv' st fr)) w' := by
  obtain ⟨i0, hi0, hz0, hz1, hz2⟩ := info_parts infoI
  have HH := Lib.hid H
  have HI := Lib.hid hi
  have HJ := Lib.hid hj
  have HIJ := Lib.hid hij
  clear H hi hj hij
  go_enter Tryz.func77, Tryz.ntmps77
  go_upto_region 2 with fail
  (iterate 60 (first | (refine shl_load1 HH.out rfl rfl rfl (i) (HI.out) rfl (by decide +kernel) ?_) | at_builtin | go_step))
  generalize hwA : World.alloc w _ = w2
  have HH2 := Lib.hid (HH.out.allocE hwA)
  clear HH hwA
  have HH := HH2
  clear HH2
  refine shl_app (e := 3) (size := 1) (bytes := 8) (news := [.int .i64 at_]) (lo := w0.heap.size) (.tmp 21) (.tmp 23) _ rfl rfl Tryz.underlying29 hi0 hz0 hz1 hz2 rfl (by omega) HH.out (j + 1) (at1 HJ.out) rfl (m := 1) rfl rfl (HH.out.boxRd 0 rfl) (by simp [Value.oneCell']) (by simp only [maxLen]; omega) (by omega) ?_
  intro v7 w7 hh7 h7
  obtain ⟨A7, c7, rfl⟩ := h7
  have HH7 := Lib.hid (show Heap w0 (its.set j (.row 3 1 (.slice A7 (nb + 1) c7) (nb + 1) (ints (bads ++ [at_])))) w7 by rw [ints_append]; exact hh7.tail)
  clear HH hh7
  have HH := HH7
  clear HH7
  have HI2 := Lib.hid (show (its.set j (.row 3 1 (.slice A7 (nb + 1) c7) (nb + 1) (ints (bads ++ [at_]))))[i]? = some (KB kb s0 s1 s2 s3 s4 s5 s6 g bv st fr) from (List.getElem?_set_ne (Ne.symm HIJ.out)).trans HI.out)
  go_wp2_with (first | (refine shl_store1 HH.out rfl rfl rfl rfl (i) (HI2.out) rfl rfl (by kernel_rfl) ?_; clear HH; intro wS HHS; have HH := Lib.hid HHS; clear HHS))
  go_end0
  exact ⟨⟨_, rfl⟩, _, HH.out⟩
end Go.Proofs.YtfongpdeflfioaaGreat
