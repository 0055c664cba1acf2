/- The texts Hst, Cgd, Spl, Sow, Bulk in one file. -/
import Derived.Test.YtfongpdeflfioaaGreatS24
import Derived.Test.YtfongpdeflfioaaGreatS3
import Derived.Test.YtfongpdeflfioaaGreatS4
import Derived.Test.YtfongpdeflfioaaGreatRows
import Derived.Test.YtfongpdeflfioaaGreatS2
/- godownlaw10.has: has a store just some objects? -/
namespace Go.Proofs.YtfongpdeflfioaaGreat
open Go.RowKit Go.Maps Go.Sort Go.Shelf
set_option linter.unusedVariables false
set_option linter.unusedSimpArgs false
def kdO (x : Ob) : ByteArray × List UInt8 := (x.key, x.data.xs)
def hsB (xs ys : List Ob) : Bool := decide (xs.map kdO = ys.map kdO)
set_option maxRecDepth 100000 in
set_option maxHeartbeats 8000000 in
theorem hst_any (w : World) (s : Sto) (l : Sl Ob) (h : Sto.At w 0 w.heap.size s) (hl : Sl.At w 0 w.heap.size Ob.cells (Ob.At w 0 w.heap.size) l) : Calls Tryz.prog 25 #[.agg s.cells.toArray, l.val] w fun e w' => e = .returned (.bool (hsB s.objs.xs l.xs)) ∧ Ext w w' := by
  have HS := Lib.hid h.objs
  have HL := Lib.hid hl
  have hln : l.n ≤ 9223372036854775807 := Nat.le_trans hl.le hl.cap
  have hsn : s.objs.n ≤ 9223372036854775807 := Nat.le_trans h.objs.le h.objs.cap
  have HV := Lib.hid (show hsB s.objs.xs l.xs = decide (s.objs.xs.map kdO = l.xs.map kdO) from rfl)
  generalize hsB s.objs.xs l.xs = V at *
  clear h hl
  obtain ⟨⟨⟨sA, sn, sc, sx⟩, ⟨wA, wn, wc, wx⟩⟩, ⟨ut, uf, uo⟩, ⟨oA, on, oc, ox⟩, ⟨iA, im, ic, ix⟩⟩ := s
  obtain ⟨lA, n, lc, xs⟩ := l
  simp only [Sto.cells, Sl.val] at *
  have Hn := Lib.hid (show n = xs.length from HL.out.len)
  have Ho := Lib.hid (show on = ox.length from HS.out.len)
  go_enter Tryz.func25, Tryz.ntmps25
  go_upto_region 1 with fail
  generalize hwH : World.alloc w _ = w1; have HH := Lib.hid (Heap.one hwH); clear hwH
  obtain ⟨sb, hsb⟩ : ∃ b, b = w.heap.size := ⟨_, rfl⟩
  have HSb := Lib.hid hsb
  rw [← hsb] at HH ⊢
  clear hsb
  by_cases hne : on = n
  · have hn0 : ((on : Int) != (n : Int)) = false := by rw [bne_eq_false_iff_eq]; omega
    have HNe := Lib.hid hne
    clear hne
    go_upto_region 2 with (refine shl_load1 HH.out rfl rfl rfl 0 rfl rfl (by decide +kernel) ?_)
    go_wp2_with fail
    go_loopw [5] (fun vi wr => ∃ k : Nat, k ≤ n ∧ vi = .int .i64 (k : Int) ∧ Hid ((ox.take k).map kdO = (xs.take k).map kdO) ∧ Hid (Heap w [.box sb [.slice sA sn sc, .slice wA wn wc, .int .i64 ut, .int .i64 uf, .int .i64 uo, .slice oA on oc, .slice iA im ic]] wr)) (fun vi _ => n - (intOf vi).toNat)
    case atStart => exact ⟨0, Nat.zero_le _, rfl, Lib.hid rfl, HH⟩
    case round =>
      clear HH
      obtain ⟨k, hk, rfl, HK, HH⟩ := hrel
      by_cases hlt : k < n
      · have l1 : k < xs.length := by rw [← Hn.out]; exact hlt
        have l2 : k < ox.length := by rw [← Ho.out, HNe.out]; exact hlt
        obtain ⟨b1, o1, hlA, hb1, f0, f1, _⟩ := rd_ob HL.out.rd l1
        obtain ⟨b2, o2, hoA, hb2, e0, e1, _⟩ := rd_ob HS.out.rd l2
        dsimp only at hlA hoA
        subst hlA
        subst hoA
        have HXl := Lib.hid (HL.out.all _ (List.getElem_mem l1)).data
        have HXo := Lib.hid (HS.out.all _ (List.getElem_mem l2)).data
        have HTl := Lib.hid (List.take_succ_eq_append_getElem l1)
        have HTo := Lib.hid (List.take_succ_eq_append_getElem l2)
        have HNo := Lib.hid (fun (hd : kdO ox[k] ≠ kdO xs[k]) => show V = false by
          rw [HV.out, decide_eq_false]
          intro he
          apply hd
          have h3 := congrArg (fun l => l[k]?) he
          simp only [List.getElem?_map, List.getElem?_eq_getElem l1, List.getElem?_eq_getElem l2, Option.map_some, Option.some.injEq] at h3
          exact h3)
        generalize xs[k] = x at *
        generalize ox[k] = y at *
        obtain ⟨xk, ⟨dA, dn, dc, dx⟩, ⟨qA, qn, qc, qx⟩⟩ := x
        obtain ⟨yk, ⟨eA, en, ec, ex⟩, ⟨pA, pn, pc, px⟩⟩ := y
        simp only [Sl.val] at f1 e1
        dsimp only at f0 e0
        have HE := Lib.hid HH.out.ext
        have hq1 : (k : Int) < (n : Int) := by omega
        have hq2 : (k : Int) < (on : Int) := by have := HNe.out; omega
        have g0 : ∀ w', Ext wr w' → w'.cell? ⟨b1, o1 + k * 3, none⟩ = some (.string xk) := fun w' hw => (Below.cell (HE.out.trans hw) hb1).trans f0
        have g1 : ∀ w', Ext wr w' → w'.cell? ⟨b1, o1 + k * 3 + 1, none⟩ = some (.slice dA dn dc) := fun w' hw => (Below.cell (HE.out.trans hw) hb1).trans f1
        have g2 : ∀ w', Ext wr w' → w'.cell? ⟨b2, o2 + k * 3, none⟩ = some (.string yk) := fun w' hw => (Below.cell (HE.out.trans hw) hb2).trans e0
        have g3 : ∀ w', Ext wr w' → w'.cell? ⟨b2, o2 + k * 3 + 1, none⟩ = some (.slice eA en ec) := fun w' hw => (Below.cell (HE.out.trans hw) hb2).trans e1
        have g4 : ∀ w', Ext wr w' → w'.cell? ⟨sb, 5, none⟩ = some (.slice (some ⟨b2, o2, none⟩) on oc) := fun w' hw => (Below.cell hw (HH.out.boxAt 0 rfl).lt).trans ((HH.out.boxAt 0 rfl).cell 5 _ rfl)
        have c1 : ∀ w', Ext wr w' → (convert 33 9 (.slice dA dn dc)).run Tryz.prog w' = .ok (.string ⟨dx.toArray⟩) w' := fun w' hw => run_conv_str w' _ _ 5 Tryz.underlying33 Tryz.underlying5 Tryz.underlying9 _ _ dA dn dc dx HXl.out.len (Rd.at HXl.out.rdb (HE.out.trans hw) (Nat.le_refl _))
        have c2 : ∀ w', Ext wr w' → (convert 33 9 (.slice eA en ec)).run Tryz.prog w' = .ok (.string ⟨ex.toArray⟩) w' := fun w' hw => run_conv_str w' _ _ 5 Tryz.underlying33 Tryz.underlying5 Tryz.underlying9 _ _ eA en ec ex HXo.out.len (Rd.at HXo.out.rdb (HE.out.trans hw) (Nat.le_refl _))
        have t1 := toList_eq (a := yk) (b := xk)
        have t2 := toArray_inj (a := ex) (b := dx)
        clear f0 f1 e0 e1
        go_upto_region 6 with fail
        refine wp_region_held_drew (S := fun w' => Ext wr w') (by kernel_rfl) (Ext.drew (Ext.refl wr)) (fun hHeld => ?_)
        refine tS 0 ?_; (try simp only [Act.put, lyA, lyB, lyC])
        refine tS 1 ?_; (try simp only [Act.put, lyA, lyB, lyC])
        refine tS 2 ?_; (try simp only [Act.put, lyA, lyB, lyC])
        refine tS 3 ?_; (try simp only [Act.put, lyA, lyB, lyC])
        refine tS 4 ?_; (try simp only [Act.put, lyA, lyB, lyC])
        refine tS 5 ?_; (try simp only [Act.put, lyA, lyB, lyC])
        refine tS 6 ?_; (try simp only [Act.put, lyA, lyB, lyC])
        refine tS 7 ?_; (try simp only [Act.put, lyA, lyB, lyC])
        refine tS 8 ?_; (try simp only [Act.put, lyA, lyB, lyC])
        refine tS 9 ?_; (try simp only [Act.put, lyA, lyB, lyC])
        refine tS 10 ?_; (try simp only [Act.put, lyA, lyB, lyC])
        by_cases hkey : yk = xk
        · rw [decide_eq_true hkey] at t1
          refine tS 11 ?_; (try simp only [Act.put, lyA, lyB, lyC])
          refine tS 12 ?_; (try simp only [Act.put, lyA, lyB, lyC])
          refine tS 13 ?_; (try simp only [Act.put, lyA, lyB, lyC])
          refine tS 14 ?_; (try simp only [Act.put, lyA, lyB, lyC])
          refine tS 15 ?_; (try simp only [Act.put, lyA, lyB, lyC])
          refine tS 16 ?_; (try simp only [Act.put, lyA, lyB, lyC])
          refine tS 17 ?_; (try simp only [Act.put, lyA, lyB, lyC])
          refine tS 18 ?_; (try simp only [Act.put, lyA, lyB, lyC])
          refine tS 19 ?_; (try simp only [Act.put, lyA, lyB, lyC])
          refine tS 20 ?_; (try simp only [Act.put, lyA, lyB, lyC])
          refine tS 21 ?_; (try simp only [Act.put, lyA, lyB, lyC])
          refine tS 22 ?_; (try simp only [Act.put, lyA, lyB, lyC])
          refine tS 23 ?_; (try simp only [Act.put, lyA, lyB, lyC])
          refine tS 24 ?_; (try simp only [Act.put, lyA, lyB, lyC])
          refine tS 25 ?_; (try simp only [Act.put, lyA, lyB, lyC])
          by_cases hdat : ex = dx
          · have t3 : (ex == dx) = true := by simp [hdat]
            rw [decide_eq_true hdat] at t2
            have HKn := Lib.hid (show (ox.take (k + 1)).map kdO = (xs.take (k + 1)).map kdO by
              rw [HTo.out, HTl.out, List.map_append, List.map_append, HK.out]
              rw [show [((⟨yk, ⟨eA, en, ec, ex⟩, ⟨pA, pn, pc, px⟩⟩ : Ob))].map kdO = [((⟨xk, ⟨dA, dn, dc, dx⟩, ⟨qA, qn, qc, qx⟩⟩ : Ob))].map kdO by simp [kdO, hkey, hdat]])
            clear hkey hdat HNo
            refine tS 26 ?_; (try simp only [Act.put, lyA, lyB, lyC])
            refine tS 27 ?_; (try simp only [Act.put, lyA, lyB, lyC])
            refine wpAnyH_done (by kernel_rfl) ?_ _
            clear hHeld g0 g1 g2 g3 g4 c1 c2
            go_wp2_with fail
            go_roundw
            case rel => exact ⟨k + 1, by omega, by go_num, HKn, Lib.hid HH.out.drew⟩
            case measure => (first | (simp [intOf]; done) | (simp [intOf]; omega))
          · have t3 : (ex == dx) = false := by simp [hdat]
            rw [decide_eq_false hdat] at t2
            have HVf := Lib.hid (HNo.out (by simp [kdO, hdat]))
            clear hkey hdat HNo
            refine tS 26 ?_; (try simp only [Act.put, lyA, lyB, lyC])
            refine tS 27 ?_; (try simp only [Act.put, lyA, lyB, lyC])
            refine wpAnyH_done (by kernel_rfl) ?_ _
            clear hHeld g0 g1 g2 g3 g4 c1 c2
            go_wp2_with fail
            go_ret
            exact ⟨retB HVf.out.symm, HH.out.drew.ext⟩
        · rw [decide_eq_false hkey] at t1
          have HVf := Lib.hid (HNo.out (by simp [kdO, hkey]))
          clear hkey HNo
          refine tS 11 ?_; (try simp only [Act.put, lyA, lyB, lyC])
          refine tS 12 ?_; (try simp only [Act.put, lyA, lyB, lyC])
          refine sS 13 ?_; (try simp only [Act.put, lyA, lyB, lyC])
          refine sS 14 ?_; (try simp only [Act.put, lyA, lyB, lyC])
          refine sS 15 ?_; (try simp only [Act.put, lyA, lyB, lyC])
          refine sS 16 ?_; (try simp only [Act.put, lyA, lyB, lyC])
          refine sS 17 ?_; (try simp only [Act.put, lyA, lyB, lyC])
          refine sS 18 ?_; (try simp only [Act.put, lyA, lyB, lyC])
          refine sS 19 ?_; (try simp only [Act.put, lyA, lyB, lyC])
          refine sS 20 ?_; (try simp only [Act.put, lyA, lyB, lyC])
          refine sS 21 ?_; (try simp only [Act.put, lyA, lyB, lyC])
          refine sS 22 ?_; (try simp only [Act.put, lyA, lyB, lyC])
          refine sS 23 ?_; (try simp only [Act.put, lyA, lyB, lyC])
          refine sS 24 ?_; (try simp only [Act.put, lyA, lyB, lyC])
          refine sS 25 ?_; (try simp only [Act.put, lyA, lyB, lyC])
          refine sS 26 ?_; (try simp only [Act.put, lyA, lyB, lyC])
          refine tS 27 ?_; (try simp only [Act.put, lyA, lyB, lyC])
          refine wpAnyH_done (by kernel_rfl) ?_ _
          clear hHeld g0 g1 g2 g3 g4 c1 c2
          go_wp2_with fail
          go_ret
          exact ⟨retB HVf.out.symm, HH.out.drew.ext⟩
      · obtain rfl : k = n := by omega
        have HVt := Lib.hid (show V = true by
          have h1 := HK.out
          rw [List.take_of_length_le (by rw [← Ho.out, HNe.out]; exact Nat.le_refl _), List.take_of_length_le (by rw [← Hn.out]; exact Nat.le_refl _)] at h1
          rw [HV.out, decide_eq_true h1])
        go_wp2_with fail
        go_ret
        exact ⟨retB HVt.out.symm, HH.out.ext⟩
  · have hn0 : ((on : Int) != (n : Int)) = true := by rw [bne_iff_ne]; omega
    have HVf := Lib.hid (show V = false by
      rw [HV.out, decide_eq_false]
      intro he
      have := congrArg List.length he
      rw [List.length_map, List.length_map, ← Hn.out, ← Ho.out] at this
      exact hne this)
    clear hne
    go_wp2_with (refine shl_load1 HH.out rfl rfl rfl 0 rfl rfl (by decide +kernel) ?_)
    go_ret
    exact ⟨retB HVf.out.symm, HH.out.ext⟩
end Go.Proofs.YtfongpdeflfioaaGreat
/- Commit of objects that may be. -/
namespace Go.Proofs.YtfongpdeflfioaaGreat
open Go.RowKit Go.Maps Go.Sort Go.Shelf
set_option linter.unusedVariables false
set_option linter.unusedSimpArgs false
def CgOut (W : World) (s : Sto) (g : List Ob) (e : Ending) (w' : World) : Prop :=
  (e = .returned (.tuple #[.agg zSto.toArray, .slice none 0 0, .int .i64 17]) ∧ Ext W w') ∨
  (∃ nx acts A c WW, e = .returned (.tuple #[.agg nx.cells.toArray, .slice A acts.length c, .int .i64 0]) ∧ acts.length ≤ c ∧ c ≤ maxLen ∧ Acs w' A acts.length c acts ∧ CmLaw s nx g acts WW ∧ Sto.At w' W.heap.size w'.heap.size nx ∧ Ext W w')
theorem commit_good (W : World) (s : Sto) (hs : Sto.At W 0 W.heap.size s) (ha : s.abs.holds) (hw : s.dev.waits.n = 0) (ht : s.ub.txg < 1099511627776) (g : Sl Ob) (hg : Gd 400 g.xs) (hl : Sl.At W 0 W.heap.size Ob.cells (Ob.At W 0 W.heap.size) g) : Calls Tryz.prog 20 #[.agg s.cells.toArray, g.val] W (CgOut W s g.xs) := by
  refine (commit_abs W s g hs ha hw hl).mono ?_
  rintro e w' (⟨E, _, hE, rfl, ee⟩ | ⟨nx, acts, A, c, WW, rfl, h1, h2, h3, _, h5, h6, h7⟩)
  · rcases hE with ⟨h, _⟩ | ⟨_, rfl, _⟩
    · exact absurd (hg.right (Nat.le_refl _) ht) h
    · exact .inl ⟨rfl, ee⟩
  · exact .inr ⟨nx, acts, A, c, WW, rfl, h1, h2, h3, h5, h6, h7⟩
theorem Gd.same {lim : Nat} {g g' : List Ob} (h : Gd lim g) (hk : g'.map kdO = g.map kdO) (h1 : ∀ x ∈ g, x.data.n = x.data.xs.length) (h2 : ∀ x ∈ g', x.data.n = x.data.xs.length) : Gd lim g' := by
  have hl : g'.length = g.length := by have := congrArg List.length hk; simpa using this
  have hm : ∀ x ∈ g', ∃ y ∈ g, y.key = x.key ∧ y.data.xs = x.data.xs := fun x hx => by
    have h3 : kdO x ∈ g.map kdO := by rw [← hk]; exact List.mem_map_of_mem hx
    obtain ⟨y, hy, e⟩ := List.mem_map.1 h3
    exact ⟨y, hy, congrArg Prod.fst e, congrArg Prod.snd e⟩
  refine ⟨by rw [hl]; exact h.six, ?_, fun x hx => ?_, fun x hx => ?_⟩
  · have h3 : g'.map Ob.key = g.map Ob.key := by
      have := congrArg (List.map Prod.fst) hk
      rw [List.map_map, List.map_map] at this
      exact this
    rw [risB_keys, h3, ← risB_keys]
    exact h.ris
  · obtain ⟨y, hy, e, _⟩ := hm x hx
    rw [← e]; exact h.key y hy
  · obtain ⟨y, hy, _, e⟩ := hm x hx
    rw [h2 x hx, ← e, ← h1 y hy]; exact h.dat y hy
end Go.Proofs.YtfongpdeflfioaaGreat
/- godownplain.Spoil: octets of a row of the call's own, written over. -/
namespace Go.Proofs.YtfongpdeflfioaaGreat
open Go.RowKit Go.Maps Go.Sort Go.Shelf
set_option linter.unusedVariables false
set_option linter.unusedSimpArgs false
def octL (n : Nat) (zs : List Value) : Prop := zs.length = n ∧ ∀ z ∈ zs, ∃ y : Int, z = .int .u8 y
theorem set_self' {its : List It} {i : Nat} {x : It} (h : its[i]? = some x) : its.set i x = its := by
  apply List.ext_getElem?
  intro j
  rw [List.getElem?_set]
  split
  · rename_i e; subst e; rw [h]; split
    · rfl
    · rename_i h2; exact absurd (List.getElem?_eq_some_iff.1 h).1 h2
  · rfl
theorem Heap.last' {w0 w : World} {x : It} {a : List It} (H : Heap w0 (x :: a) w) : Heap w0 (a ++ [x]) w := by
  have hp : ∀ i y, (a ++ [x])[i]? = some y → (i < a.length ∧ (x :: a)[i + 1]? = some y) ∨ (i = a.length ∧ y = x) := fun i y h => by
    rcases Nat.lt_trichotomy i a.length with h1 | h1 | h1
    · rw [List.getElem?_append_left h1] at h; exact .inl ⟨h1, by simpa using h⟩
    · subst h1; simp at h; exact .inr ⟨rfl, h.symm⟩
    · rw [List.getElem?_eq_none (by simp; omega)] at h; cases h
  refine ⟨H.ext, fun i y h => ?_, fun i j y z k hij hy hz => ?_⟩
  · rcases hp i y h with ⟨_, h1⟩ | ⟨_, rfl⟩
    · exact H.all _ _ h1
    · exact H.all 0 _ rfl
  · rcases hp i y hy with ⟨h0, h1⟩ | ⟨h0, rfl⟩
    · rcases hp j z hz with ⟨h2, h3⟩ | ⟨h2, rfl⟩
      · exact H.apart _ _ _ _ k (by omega) h1 h3
      · exact H.apart (i + 1) 0 _ _ k (by omega) h1 rfl
    · rcases hp j z hz with ⟨h2, h3⟩ | ⟨h2, rfl⟩
      · exact H.apart 0 (j + 1) _ _ k (by omega) rfl h3
      · omega
set_option maxRecDepth 100000 in
set_option maxHeartbeats 4000000 in
theorem spoil_any {w0 w : World} {its : List It} (H : Heap w0 its w) (i : Nat) (A : Option Addr) (n c : Nat) (ys : List UInt8) (hi : its[i]? = some (.row 5 1 (.slice A n c) n (bytes ys))) (hm : n ≤ maxLen) :
    Calls Tryz.prog 26 #[.slice A n c] w fun e w' => (∃ v, e = .returned v) ∧ ∃ zs : List Value, Heap w0 (its.set i (.row 5 1 (.slice A n c) n zs)) w' := by
  have hil : i < its.length := (List.getElem?_eq_some_iff.1 hi).1
  have HI := Lib.hid (fun zs => List.getElem?_set_self (a := It.row 5 1 (.slice A n c) n zs) hil)
  have H0 := Lib.hid (show Heap w0 (its.set i (.row 5 1 (.slice A n c) n (bytes ys))) w by rw [set_self' hi]; exact H)
  have h0 := Lib.hid (show octL n (bytes ys) from ⟨by have := (H.rowAt i hi).1; omega, fun z hz => by
    obtain ⟨b, _, rfl⟩ := List.mem_map.1 hz
    exact ⟨_, rfl⟩⟩)
  have hm2 : n ≤ 9223372036854775807 := Nat.le_trans hm (by decide)
  clear hi H hm
  generalize bytes ys = zs at *
  go_enter Tryz.func26, Tryz.ntmps26
  go_wp2_with fail
  go_loopw [2] (fun v wr => ∃ (k : Nat) (zs : List Value), k ≤ n ∧ v = .int .i64 (k : Int) ∧ Hid (octL n zs) ∧ Hid (Heap w0 (its.set i (.row 5 1 (.slice A n c) n zs)) wr)) (fun v _ => n - (intOf v).toNat)
  case atStart => exact ⟨0, zs, Nat.zero_le _, rfl, h0, H0⟩
  case round =>
    clear H0 h0
    obtain ⟨k, zs, hk, rfl, HZ, HH⟩ := hrel
    by_cases hlt : k < n
    · obtain ⟨g, c', hg⟩ := HH.out.rowForm i (HI.out zs) (by omega)
      obtain ⟨rfl, rfl⟩ : A = some ⟨g, 0, none⟩ ∧ c = c' := by simpa using hg
      clear hg
      have hl : k < zs.length := by rw [HZ.out.1]; exact hlt
      obtain ⟨z, hz⟩ := HZ.out.2 _ (List.getElem_mem hl)
      have f0 : wr.cell? ⟨g, k, none⟩ = some (.int .u8 z) := by rw [← hz]; exact (HH.out.rowAt i (HI.out zs)).cellAt k (by omega) |>.trans (List.getElem?_eq_getElem hl)
      have hkn : (k : Int) < (n : Int) := by omega
      clear hz hl
      go_upto_region 2 with (refine shl_rstore1 HH.out rfl rfl rfl rfl i (HI.out zs) (by omega) rfl (by kernel_rfl) ?_; clear HH f0; intro wS HHS; have HH := Lib.hid HHS; clear HHS)
      have HH2 := HH.out
      rw [set_set] at HH2
      rename_i wr0
      have HH3 := Lib.hid HH2
      clear HH HH2
      go_wp2_with fail
      go_roundw
      case rel =>
        refine ⟨k + 1, _, by omega, by go_num, ?_, HH3⟩
        have h1 := HZ.out.1
        refine Lib.hid ⟨by simp; omega, fun z hz => ?_⟩
        rcases List.mem_append.1 hz with hz | hz
        · rcases List.mem_append.1 hz with hz | hz
          · exact HZ.out.2 z (List.mem_of_mem_take hz)
          · simp only [List.mem_singleton] at hz
            exact ⟨_, hz⟩
        · exact HZ.out.2 z (List.mem_of_mem_drop hz)
      case measure => simp [intOf]; omega
    · obtain rfl : k = n := by omega
      go_wp2_with fail
      go_end0
      exact ⟨⟨_, rfl⟩, zs, HH.out⟩
end Go.Proofs.YtfongpdeflfioaaGreat
/- godownlaw10.StoreOwn: the law's walk. -/
namespace Go.Proofs.YtfongpdeflfioaaGreat
open Go.RowKit Go.Maps Go.Sort Go.Shelf
set_option linter.unusedVariables false
set_option linter.unusedSimpArgs false
theorem commit_own (W : World) (s : Sto) (hs : Sto.At W 0 W.heap.size s) (ha : s.abs.holds) (hw : s.dev.waits.n = 0) (ht : s.ub.txg < 1099511627776) (g : Sl Ob) (hg : Gd 400 g.xs) (hl : Sl.At W 0 W.heap.size Ob.cells (Ob.At W 0 W.heap.size) g) :
    Calls Tryz.prog 20 #[.agg s.cells.toArray, g.val] W fun e w' => ∃ (T : Sto) (AA : Option Addr) (na ca : Nat) (E : Int), e = .returned (.tuple #[.agg T.cells.toArray, .slice AA na ca, .int .i64 E]) ∧ (E = 17 ∨ E = 0 ∧ T.abs.holds ∧ T.dev.waits.n = 0 ∧ T.objs.xs.map kdO = g.xs.map kdO) ∧ Sto.At w' W.heap.size w'.heap.size T ∧ Ext W w' := by
  refine (commit_good W s hs ha hw ht g hg hl).mono ?_
  rintro e w' (⟨rfl, ee⟩ | ⟨nx, acts, A, c, WW, rfl, _, _, _, hlaw, hA, ee⟩)
  · exact ⟨⟨⟨⟨none, 0, 0, []⟩, ⟨none, 0, 0, []⟩⟩, ⟨0, 0, 0⟩, ⟨none, 0, 0, []⟩, ⟨none, 0, 0, []⟩⟩, none, 0, 0, 17, rfl, .inl rfl,
      ⟨⟨⟨rfl, Nat.le_refl _, Nat.zero_le _, Rd.nil, fun _ hh => by cases hh⟩, ⟨rfl, Nat.le_refl _, Nat.zero_le _, Rd.nil, fun _ hh => by cases hh⟩⟩, ⟨by decide, by decide, by decide, by decide, by decide, by decide⟩, ⟨rfl, Nat.le_refl _, Nat.zero_le _, Rd.nil, fun _ hh => by cases hh⟩, ⟨rfl, Nat.le_refl _, Nat.zero_le _, Rd.nil, fun _ hh => by cases hh⟩⟩, ee⟩
  · have hk : nx.objs.xs.map kdO = g.xs.map kdO := by
      have h := hlaw.kd
      show _ = g.xs.map fun x => (x.key, x.data.xs)
      rw [← h]
      show _ = (nx.objs.xs.map strip).map _
      rw [List.map_map]; rfl
    exact ⟨nx, A, _, c, 0, rfl, .inr ⟨rfl, hlaw.holds, hlaw.wait, hk⟩, hA, ee⟩
def dIt (x : Ob) : It := .row 5 1 x.data.val x.data.n (bytes x.data.xs)
set_option maxRecDepth 100000 in
set_option maxHeartbeats 8000000 in
theorem sown10_any (w : World) (n : Int) (a : Sl Ob) (hn : (Lit.int .i64 n).wf = true) (ha : Sl.At w 0 w.heap.size Ob.cells (Ob.At w 0 w.heap.size) a) :
    Calls Tryz.prog 6 #[.int .i64 n, a.val] w fun e w' => e = .returned (.bool true) ∧ Ext w w' := by
  obtain ⟨i0, hi0, hz0, hz1, hz2⟩ := info_parts info5
  obtain ⟨j0, hj0, hy0, hy1, hy2⟩ := info_parts infoOb
  have HGa := Lib.hid (fun W (hW : Ext w W) => good_any W a (Sl.At.imp ha (rd_on hW (Nat.le_refl _) _ _) (fun x hx => Ob.At.on hx hW (Nat.le_refl _))))
  have HSz := Lib.hid (fun W => size_any W n hn)
  clear ha hn
  obtain ⟨aA, an, ac, ax⟩ := a
  simp only [Sl.val] at *
  go_enter Tryz.func6, Tryz.ntmps6
  have HH := Lib.hid (Heap.start w)
  go_upto_region 3 with (go_at_call 16; (with_reducible refine (alive10_any _).mono ?_); rintro e wC ⟨rfl, eC⟩; have HHn := Lib.hid (HH.out.later eC); clear HH eC; have HH := HHn; clear HHn)
  go_wp2_with fail
  refine (HSz.out _).mono ?_
  rintro e w1 ⟨k, rfl, k1, k2, rfl⟩
  go_wp2_with fail
  refine (first_yes w1 k (by omega) (by omega)).mono ?_
  rintro e w2 ⟨s, rfl, habs, hho, hw0, hS, e2⟩
  have HH2 := Lib.hid (HH.out.addLook e2 (J := fun W => Sto.At W w1.heap.size w2.heap.size s) (fun _ _ hr hh => hh.imp hr) (Nat.le_refl _) (Nat.le_refl _) hS)
  have HSf := Lib.hid (⟨hho, hw0, by have := congrArg Abs.u habs; show s.ub.txg = 2; rw [show s.ub = _ from this]; rfl, by have h : (s.objs.xs.map strip) = [] := congrArg Abs.O habs; rw [hS.objs.len]; simpa using h⟩ : s.abs.holds ∧ s.dev.waits.n = 0 ∧ s.ub.txg = 2 ∧ s.objs.n = 0)
  clear HH habs hho hw0 hS e2 HSz k1 k2
  have HH := HH2
  clear HH2
  go_upto_region 4 with (first | (refine shl_store (HH.out.alloc _ _) sizeSto rfl rfl rfl rfl 0 rfl rfl rfl rfl ?_; clear HH; intro wS HHS; have HH := Lib.hid HHS; clear HHS))
  obtain ⟨sb, hsb⟩ : ∃ b, b = w2.heap.size := ⟨_, rfl⟩
  rw [← hsb] at HH ⊢
  clear hsb
  go_wp2_with fail
  refine (HGa.out _ HH.out.ext).mono ?_
  rintro e w4 ⟨ga, rfl, hga, gaat, e4⟩
  have HH2 := Lib.hid (HH.out.later e4)
  clear HH HGa e4
  have HEw := Lib.hid HH2.out.ext
  have hbx := HH2.out.boxAt 0 rfl
  have hx0 := hbx.cell 0 _ rfl
  have hx1 := hbx.cell 1 _ rfl
  have hx2 := hbx.cell 2 _ rfl
  have hx3 := hbx.cell 3 _ rfl
  have hx4 := hbx.cell 4 _ rfl
  have hx5 := hbx.cell 5 _ rfl
  have hx6 := hbx.cell 6 _ rfl
  simp only [Sto.cells, Dev.cells, Sl.val] at *
  have HSB := Lib.hid (fun (W : World) (hW : Ext w4 W) => And.intro ((Below.cell hW hbx.lt).trans hx0) (And.intro ((Below.cell hW hbx.lt).trans hx1) (And.intro ((Below.cell hW hbx.lt).trans hx2) (And.intro ((Below.cell hW hbx.lt).trans hx3) (And.intro ((Below.cell hW hbx.lt).trans hx4) (And.intro ((Below.cell hW hbx.lt).trans hx5) ((Below.cell hW hbx.lt).trans hx6)))))))
  have HS4 := Lib.hid (fun (W : World) (hW : Ext w4 W) => show Sto.At W 0 W.heap.size s from Sto.At.on ((HH2.out.lookAt 1 rfl).2.imp fun _ _ hr => hr.more (Nat.zero_le _) (HH2.out.lookAt 1 rfl).1) hW (Nat.le_refl _))
  clear hbx hx0 hx1 hx2 hx3 hx4 hx5 hx6 HH2
  obtain ⟨gA, gn, gc, gx⟩ := ga
  have HG := Lib.hid gaat
  have HGd := Lib.hid hga
  have Hgn := Lib.hid (show gn = gx.length from gaat.len)
  have hg6 : gn ≤ 6 := by rw [Hgn.out]; exact hga.six
  clear gaat hga
  dsimp only at *
  go_wp2_with fail
  have HH := Lib.hid ((Heap.start w4).row0 (e := 35) (size := 3))
  go_loopw [7, 8] (fun vo vi wr => ∃ (k : Nat) (g : List Ob) (A : Option Addr) (c : Nat), k ≤ gn ∧ g.length = k ∧ vi = .int .i64 (k : Int) ∧ vo = .slice A k c ∧ Hid (g.map kdO = (gx.take k).map kdO ∧ ∀ x ∈ g, x.data.n = x.data.xs.length ∧ x.locs = ⟨none, 0, 0, []⟩) ∧ Hid (Heap w4 (.row 35 3 (.slice A k c) k (g.flatMap Ob.cells) :: g.map dIt) wr)) (fun _ vi _ => gn - (intOf vi).toNat)
  case atStart => exact ⟨0, [], none, 0, Nat.zero_le _, rfl, rfl, rfl, Lib.hid ⟨rfl, fun x hx => by cases hx⟩, HH⟩
  case round =>
    clear HH
    obtain ⟨k, g, A, c, hk, hgl, rfl, rfl, HK, HH⟩ := hrel
    have HGl := Lib.hid hgl
    clear hgl
    by_cases hlt : k < gn
    · have l1 : k < gx.length := by rw [← Hgn.out]; exact hlt
      obtain ⟨b1, o1, hlA, hb1, f0, f1, f2⟩ := rd_ob HG.out.rd l1
      dsimp only at hlA
      subst hlA
      have HXA := Lib.hid (HG.out.all _ (List.getElem_mem l1))
      have hd4 := HGd.out.dat _ (List.getElem_mem l1)
      have HT := Lib.hid (List.take_succ_eq_append_getElem l1)
      generalize gx[k] = x at *
      obtain ⟨key, ⟨dA, dn, dc, dx⟩, ⟨qA, qn, qc, qx⟩⟩ := x
      simp only [Sl.val] at f1 f2
      dsimp only at f0 hd4
      have p0 : ∀ W, Ext w4 W → W.cell? ⟨b1, o1 + k * 3, none⟩ = some (.string key) := fun W hW => (Below.cell hW hb1).trans f0
      have p1 : ∀ W, Ext w4 W → W.cell? ⟨b1, o1 + k * 3 + 1, none⟩ = some (.slice dA dn dc) := fun W hW => (Below.cell hW hb1).trans f1
      have hkn : (k : Int) < (gn : Int) := by omega
      clear f0 f1 f2 l1
      go_upto_region 9 with fail
      have HHd := Lib.hid HH.out.drew
      clear HH
      refine wp_region_held_drew (S := fun W => Ext w4 W) (by kernel_rfl) HHd.out.ext (fun hHeld => ?_)
      generalize World.drew wr = wd at *
      refine tS 0 ?_; (try simp only [Act.put, lyA, lyB, lyC])
      refine tS 1 ?_; (try simp only [Act.put, lyA, lyB, lyC])
      refine tS 2 ?_; (try simp only [Act.put, lyA, lyB, lyC])
      refine tS 3 ?_; (try simp only [Act.put, lyA, lyB, lyC])
      refine tS 4 ?_; (try simp only [Act.put, lyA, lyB, lyC])
      refine tS 5 ?_; (try simp only [Act.put, lyA, lyB, lyC])
      refine tS 7 ?_; (try simp only [Act.put, lyA, lyB, lyC])
      refine tS 8 ?_; (try simp only [Act.put, lyA, lyB, lyC])
      refine tS 9 ?_; (try simp only [Act.put, lyA, lyB, lyC])
      refine tS 10 ?_; (try simp only [Act.put, lyA, lyB, lyC])
      refine tS 11 ?_; (try simp only [Act.put, lyA, lyB, lyC])
      clear hHeld p0 p1
      refine oS 6 (fun K hK => ?_)
      go_simp; generalize hwA : World.alloc _ _ = w6; have HH6 := Lib.hid ((HHd).out.allocRow hwA (n := 0) (size := 1) rfl (by simp [maxLen])); clear hwA HHd
      refine hK.out _ _ HH6.out.ext (fun hHeld => ?_); clear hK K; (try simp only [Act.put, lyA, lyB, lyC])
      clear hHeld
      refine oS 12 (fun K hK => ?_)
      refine sh_app (.tmp 38) (.tmp 43) _ rfl Tryz.underlying33 hi0 hz0 hz1 hz2 rfl (by omega) HH6.out 0 rfl rfl (m := dn) rfl (by rw [bytes_length, Nat.mul_one]; exact HXA.out.data.len.symm) (Rd.at HXA.out.data.rdb HH6.out.ext (Nat.le_refl _)) (bytes_one _) (by simp only [maxLen]; omega) (by omega) ?_
      intro v7 w7 hh7 h7
      obtain ⟨A7, c7, rfl⟩ := h7
      simp only [Nat.zero_add] at *
      have HH7 := Lib.hid (show Heap w4 (.row 5 1 (.slice A7 dn c7) dn (bytes dx) :: .row 35 3 (.slice A k c) k (g.flatMap Ob.cells) :: g.map dIt) w7 from hh7)
      clear hh7 HH6
      refine hK.out _ _ HH7.out.ext (fun hHeld => ?_); clear hK K; (try simp only [Act.put, lyA, lyB, lyC])
      refine tS 13 ?_; (try simp only [Act.put, lyA, lyB, lyC])
      clear hHeld
      refine oS 14 (fun K hK => ?_)
      go_simp; generalize hwA : World.alloc _ _ = w8; have HH8 := Lib.hid ((HH7).out.allocE hwA); clear hwA HH7
      refine hK.out _ _ HH8.out.ext (fun hHeld => ?_); clear hK K; (try simp only [Act.put, lyA, lyB, lyC])
      clear hHeld
      refine oS 15 (fun K hK => ?_)
      refine sh_app (.tmp 32) (.tmp 46) _ rfl Tryz.underlying28 hj0 hy0 hy1 hy2 rfl (by omega) HH8.out 2 rfl rfl (m := 1) rfl rfl (HH8.out.boxRd 0 rfl) (by simp [Value.oneCell']) (by simp only [maxLen]; omega) (by omega) ?_
      intro v9 w9 hh9 h9
      obtain ⟨A9, c9, rfl⟩ := h9
      have HH9 := Lib.hid (show Heap w4 (.row 35 3 (.slice A9 (k + 1) c9) (k + 1) ((g ++ [(⟨key, ⟨A7, dn, c7, dx⟩, ⟨none, 0, 0, []⟩⟩ : Ob)]).flatMap Ob.cells) :: (g ++ [(⟨key, ⟨A7, dn, c7, dx⟩, ⟨none, 0, 0, []⟩⟩ : Ob)]).map dIt) w9 by
        have h := hh9.tail.last'
        rw [List.flatMap_append, List.map_append]
        exact h)
      clear hh9 HH8
      refine hK.out _ _ HH9.out.ext (fun hHeld => ?_); clear hK K; (try simp only [Act.put, lyA, lyB, lyC])
      refine tS 16 ?_; (try simp only [Act.put, lyA, lyB, lyC])
      refine wpAnyH_done (by kernel_rfl) ?_ _
      clear hHeld
      go_wp2_with fail
      go_roundw
      case rel =>
        refine ⟨k + 1, g ++ [⟨key, ⟨A7, dn, c7, dx⟩, ⟨none, 0, 0, []⟩⟩], A9, c9, by omega, by rw [List.length_append, HGl.out]; rfl, by go_num, by go_num, Lib.hid ⟨?_, fun x hx => ?_⟩, HH9⟩
        · rw [HT.out, List.map_append, List.map_append, HK.out.1]; rfl
        · rcases List.mem_append.1 hx with hx | hx
          · exact HK.out.2 x hx
          · simp only [List.mem_singleton] at hx
            subst hx
            exact ⟨HXA.out.data.len, rfl⟩
      case measure => (first | (simp [intOf]; done) | (simp [intOf]; omega))
    · obtain rfl : k = gn := by omega
      have hks : g.map kdO = gx.map kdO := by have h := HK.out.1; rw [List.take_of_length_le (by rw [← Hgn.out]; exact Nat.le_refl _)] at h; exact h
      have HGg := Lib.hid (HGd.out.same hks (fun x hx => (HG.out.all x hx).data.len) (fun x hx => (HK.out.2 x hx).1))
      have hIn : Sl.At wr 0 wr.heap.size Ob.cells (Ob.At wr 0 wr.heap.size) ⟨A, k, c, g⟩ := by
        have hrw := own_form2 (HH.out.rowAt 0 rfl)
        refine ⟨HGl.out.symm, hrw.1, hrw.2, (HH.out.rowRd 0 rfl).m0, fun x hx => ⟨Nat.le_trans (HGg.out.key x hx) (by decide), ?_, ?_⟩⟩
        · obtain ⟨j, hj, rfl⟩ := List.getElem_of_mem hx
          have hit : (It.row 35 3 (.slice A k c) k (g.flatMap Ob.cells) :: g.map dIt)[j + 1]? = some (.row 5 1 (.slice (g[j]).data.A (g[j]).data.n (g[j]).data.c) (g[j]).data.n (bytes (g[j]).data.xs)) := by simp [hj, dIt, Sl.val]
          have h2 := own_form2 (HH.out.rowAt (j + 1) hit)
          exact ⟨(HK.out.2 _ hx).1, h2.1, h2.2, by rw [octs_flat]; exact (HH.out.rowRd (j + 1) hit).m0, fun _ _ => trivial⟩
        · rw [(HK.out.2 x hx).2]
          exact ⟨rfl, Nat.le_refl _, Nat.zero_le _, Rd.nil, fun _ hh => by cases hh⟩
      obtain ⟨s0, s1, s2, s3, s4, s5, s6⟩ := HSB.out _ HH.out.ext
      have HKs := Lib.hid (⟨hks, fun x hx => (HK.out.2 x hx).1⟩ : g.map kdO = gx.map kdO ∧ ∀ x ∈ g, x.data.n = x.data.xs.length)
      have HIn := Lib.hid hIn
      clear hIn hks HK hz0 hz1 hz2 hi0 hy0 hy1 hy2 hj0 hlt hk
      go_upto_region 10 with fail
      go_wp2_with fail
      clear s0 s1 s2 s3 s4 s5 s6
      refine (commit_own wr s (HS4.out _ HH.out.ext) HSf.out.1 HSf.out.2.1 (by rw [HSf.out.2.2.1]; decide) ⟨A, k, c, g⟩ HGg.out HIn.out).mono ?_
      rintro e w6 ⟨T, AA, na, ca, E, rfl, hE, hT, e6⟩
      obtain ⟨lo, hi, HH2⟩ := show ∃ lo hi, Heap w4 (It.look (fun W => Sto.At W lo hi T) lo hi (fun _ _ hr hh => hh.imp hr) :: .row 35 3 (.slice A k c) k (g.flatMap Ob.cells) :: g.map dIt) w6 from ⟨_, _, HH.out.addLook e6 (J := fun W => Sto.At W wr.heap.size w6.heap.size T) (fun _ _ hr hh => hh.imp hr) (Nat.le_refl _) (Nat.le_refl _) hT⟩
      have HE := Lib.hid hE
      clear HH HIn hE hT e6
      have HH := Lib.hid HH2
      clear HH2
      simp only [Sto.cells, Dev.cells, Sl.val]
      go_upto_region 11 with (refine shl_store (HH.out.alloc _ _) sizeSto rfl rfl rfl rfl 0 rfl rfl rfl rfl ?_; clear HH; intro wS HHS; have HH := Lib.hid HHS; clear HHS)
      obtain ⟨tb, htb⟩ : ∃ b, b = w6.heap.size := ⟨_, rfl⟩
      rw [← htb] at HH ⊢
      have HH2 := Lib.hid (show Heap w4 (.box tb [.slice T.dev.secs.A T.dev.secs.n T.dev.secs.c, .slice T.dev.waits.A T.dev.waits.n T.dev.waits.c, .int .i64 T.ub.txg, .int .i64 T.ub.first, .int .i64 T.ub.objs, .slice T.objs.A T.objs.n T.objs.c, .slice T.idx.A T.idx.n T.idx.c] :: It.look (fun W => Sto.At W lo hi T) lo hi (fun _ _ hr hh => hh.imp hr) :: .row 35 3 (.slice A k c) k (g.flatMap Ob.cells) :: g.map dIt) wS from HH.out)
      clear HH htb
      have HH := HH2
      clear HH2
      go_wp2_with fail
      have hk9 : k ≤ 6 := hg6
      go_loopw [12] (fun v wr => ∃ (j : Nat) (D : List It), j ≤ k ∧ v = .int .i64 (j : Int) ∧ Hid (D.length = k ∧ ∀ i, j ≤ i → D[i]? = (g.map dIt)[i]?) ∧ Hid (Heap w4 (.box tb [.slice T.dev.secs.A T.dev.secs.n T.dev.secs.c, .slice T.dev.waits.A T.dev.waits.n T.dev.waits.c, .int .i64 T.ub.txg, .int .i64 T.ub.first, .int .i64 T.ub.objs, .slice T.objs.A T.objs.n T.objs.c, .slice T.idx.A T.idx.n T.idx.c] :: It.look (fun W => Sto.At W lo hi T) lo hi (fun _ _ hr hh => hh.imp hr) :: .row 35 3 (.slice A k c) k (g.flatMap Ob.cells) :: D) wr)) (fun v _ => k - (intOf v).toNat)
      case atStart => exact ⟨0, g.map dIt, Nat.zero_le _, rfl, Lib.hid ⟨by rw [List.length_map]; exact HGl.out, fun _ _ => rfl⟩, HH⟩
      case round =>
        clear HH
        obtain ⟨j, D, hj, rfl, HD, HH⟩ := hrel
        by_cases hlt : j < k
        · have l1 : j < g.length := by rw [HGl.out]; exact hlt
          obtain ⟨b1, o1, hlA, hb1, f0, f1, f2⟩ := rd_ob (HH.out.rowRd 2 rfl) l1
          subst hlA
          have HDj := Lib.hid (show D[j]? = some (dIt g[j]) by rw [HD.out.2 j (Nat.le_refl _)]; simp [l1])
          have hdn : (g[j]).data.n ≤ maxLen := Nat.le_trans (HGg.out.dat _ (List.getElem_mem l1)) (by decide)
          generalize g[j] = x at *
          obtain ⟨key, ⟨dA, dn, dc, dx⟩, ⟨qA, qn, qc, qx⟩⟩ := x
          simp only [Sl.val] at f1 f2
          have hjk : (j : Int) < (k : Int) := by omega
          clear f0 f2
          go_wp2_with fail
          refine (spoil_any HH.out (j + 3) dA dn dc dx HDj.out hdn).mono ?_
          rintro e w8 ⟨⟨v, rfl⟩, zs, h8⟩
          have HH8 := Lib.hid h8
          clear HH h8 f1
          simp only [List.set_cons_succ] at HH8
          go_wp2_with fail
          go_roundw
          case rel =>
            refine ⟨j + 1, D.set j _, by omega, by go_num, Lib.hid ⟨by rw [List.length_set]; exact HD.out.1, fun i hi => ?_⟩, HH8⟩
            rw [List.getElem?_set_ne (by omega)]
            exact HD.out.2 i (by omega)
          case measure => (first | (simp [intOf]; done) | (simp [intOf]; omega))
        · obtain rfl : j = k := by omega
          have hq0 : ¬ (j : Int) < (j : Int) := by omega
          have s5 := (HSB.out _ HH.out.ext).2.2.2.2.2.1
          have hs0 := HSf.out.2.2.2
          rw [hs0] at s5
          clear hs0
          rcases HE.out with rfl | ⟨rfl, hE1, hE2, hE3⟩
          · go_wp2_with (go_at_call 21; (refine (num10_any _ _).mono ?_); rintro e wN ⟨rfl, rfl⟩)
            go_ret
            exact ⟨rfl, HEw.out.trans HH.out.ext⟩
          · have HT := Lib.hid (show T.abs.holds ∧ T.dev.waits.n = 0 ∧ T.objs.xs.map kdO = g.map kdO from ⟨hE1, hE2, hE3⟩)
            clear hE1 hE2 hE3 HE s5
            have HTA := Lib.hid (fun (W : World) (x y : It) (D : List It) (hH : Heap w4 (x :: It.look (fun W => Sto.At W lo hi T) lo hi (fun _ _ hr hh => hh.imp hr) :: y :: D) W) => show Sto.At W 0 W.heap.size T from (hH.lookAt 1 rfl).2.imp fun _ _ hr => hr.more (Nat.zero_le _) (hH.lookAt 1 rfl).1)
            go_upto_region 17 with (go_at_call 21; (refine (num10_any _ _).mono ?_); rintro e wN ⟨rfl, rfl⟩)
            go_wp2_with fail
            go_loopw [13, 14, 15] (fun v _ _ wr => ∃ i : Nat, i ≤ j ∧ v = .int .i64 (i : Int) ∧ Hid (Heap w4 (.box tb [.slice T.dev.secs.A T.dev.secs.n T.dev.secs.c, .slice T.dev.waits.A T.dev.waits.n T.dev.waits.c, .int .i64 T.ub.txg, .int .i64 T.ub.first, .int .i64 T.ub.objs, .slice T.objs.A T.objs.n T.objs.c, .slice T.idx.A T.idx.n T.idx.c] :: It.look (fun W => Sto.At W lo hi T) lo hi (fun _ _ hr hh => hh.imp hr) :: .row 35 3 (.slice A j c) j (g.flatMap Ob.cells) :: D) wr)) (fun v _ _ _ => j - (intOf v).toNat)
            case atStart => exact ⟨0, Nat.zero_le _, rfl, HH⟩
            case round =>
              clear HH
              obtain ⟨i, hi', rfl, HH⟩ := hrel
              by_cases hlt : i < j
              · have l1 : i < gx.length := by rw [← Hgn.out]; exact hlt
                obtain ⟨b1, o1, hlA, hb1, f0, f1, f2⟩ := rd_ob HG.out.rd l1
                dsimp only at hlA
                subst hlA
                generalize gx[i] = x at *
                obtain ⟨key, ⟨dA, dn, dc, dx⟩, ⟨qA, qn, qc, qx⟩⟩ := x
                dsimp only at f0
                have p0 : ∀ W, Heap w4 [.box tb [.slice T.dev.secs.A T.dev.secs.n T.dev.secs.c, .slice T.dev.waits.A T.dev.waits.n T.dev.waits.c, .int .i64 T.ub.txg, .int .i64 T.ub.first, .int .i64 T.ub.objs, .slice T.objs.A T.objs.n T.objs.c, .slice T.idx.A T.idx.n T.idx.c]] W → W.cell? ⟨b1, o1 + i * 3, none⟩ = some (.string key) := fun W hW => (Below.cell hW.ext hb1).trans f0
                have hij : (i : Int) < (j : Int) := by omega
                clear f0 f1 f2 l1
                go_upto_region 20 with fail
                have HHd := Lib.hid HH.out.drew
                clear HH
                refine wp_region_held_drew (S := Heap w4 [.box tb [.slice T.dev.secs.A T.dev.secs.n T.dev.secs.c, .slice T.dev.waits.A T.dev.waits.n T.dev.waits.c, .int .i64 T.ub.txg, .int .i64 T.ub.first, .int .i64 T.ub.objs, .slice T.objs.A T.objs.n T.objs.c, .slice T.idx.A T.idx.n T.idx.c]]) (by kernel_rfl) (HHd.out.only 0 rfl) (fun hHeld => ?_)
                generalize World.drew wr = wd at *
                refine tG 0 rfl (fun wT hST => sh_run_load hST sizeSto (by kernel_rfl) rfl rfl 0 rfl (Nat.le_of_ble_eq_true rfl)) hHeld ?_; (try simp only [Act.put, lyA, lyB, lyC])
                refine tS 1 ?_; (try simp only [Act.put, lyA, lyB, lyC])
                refine tS 2 ?_; (try simp only [Act.put, lyA, lyB, lyC])
                refine tS 3 ?_; (try simp only [Act.put, lyA, lyB, lyC])
                refine tS 4 ?_; (try simp only [Act.put, lyA, lyB, lyC])
                refine tS 5 ?_; (try simp only [Act.put, lyA, lyB, lyC])
                clear hHeld p0
                refine oS 6 (fun K hK => ?_)
                go_simp
                refine (get_any wd T key (HTA.out _ _ _ _ HHd.out) (fun o ho => by have h := (HTA.out _ _ _ _ HHd.out).objs.all o ho; have h2 := HT.out.1.ok.fit (strip o) (List.mem_map_of_mem ho); rw [h.data.len]; exact Nat.le_trans h2.1 (by decide))).mono ?_
                rintro e w8 ⟨A8, c8, rfl, hown, e8⟩
                generalize getB T.objs.xs key = KB at *
                have hKB : KB.length ≤ maxLen := Nat.le_trans (own_form2 hown).1 (own_form2 hown).2
                have HH8 := Lib.hid (HHd.out.addRow e8 hown)
                clear hown e8 HHd
                go_wp2_with fail
                refine hK.out _ _ (HH8.out.only 1 rfl) (fun hHeld => ?_)
                clear hK K
                (try simp only [Act.put, lyA, lyB, lyC])
                refine tS 7 ?_; (try simp only [Act.put, lyA, lyB, lyC])
                refine tS 8 ?_; (try simp only [Act.put, lyA, lyB, lyC])
                refine tS 9 ?_; (try simp only [Act.put, lyA, lyB, lyC])
                refine tS 10 ?_; (try simp only [Act.put, lyA, lyB, lyC])
                refine tS 11 ?_; (try simp only [Act.put, lyA, lyB, lyC])
                refine wpAnyH_done (by kernel_rfl) ?_ _
                clear hHeld
                go_wp2_with fail
                refine (spoil_any HH8.out 0 A8 KB.length c8 KB rfl hKB).mono ?_
                rintro e w9 ⟨⟨v, rfl⟩, zs, h9⟩
                have HH9 := Lib.hid h9
                clear HH8 h9
                simp only [List.set_cons_zero] at HH9
                go_wp2_with fail
                go_roundw
                case rel => exact ⟨i + 1, by omega, by go_num, Lib.hid HH9.out.tail⟩
                case measure => (first | (simp [intOf]; done) | (simp [intOf]; omega))
              · obtain rfl : i = j := by omega
                have hG4 := Sl.At.imp HG.out (rd_on HH.out.ext (Nat.le_refl _) _ _) (fun x hx => Ob.At.on hx HH.out.ext (Nat.le_refl _))
                have hTA := HTA.out _ _ _ _ HH.out
                have hB : hsB T.objs.xs gx = true := decide_eq_true (HT.out.2.2.trans HKs.out.1)
                have HCk := Lib.hid (fun (W : World) (hW : Ext w4 W) => show Calls Tryz.prog 13 #[.agg s.cells.toArray] W (fun e w' => e = .returned (.int .i64 0) ∧ Ext W w') from by
                  have h1 := scheck_any W s (HS4.out W hW) (small_abs (HS4.out W hW) HSf.out.1.ok)
                  rw [(sck_abs (HS4.out W hW)).2 ⟨HSf.out.1.ok, HSf.out.2.1⟩] at h1
                  exact h1)
                simp only [Sto.cells, Dev.cells, Sl.val] at HCk
                have g0 := (HH.out.boxAt 0 rfl).cell 0 _ rfl; have g1 := (HH.out.boxAt 0 rfl).cell 1 _ rfl; have g2 := (HH.out.boxAt 0 rfl).cell 2 _ rfl; have g3 := (HH.out.boxAt 0 rfl).cell 3 _ rfl; have g4 := (HH.out.boxAt 0 rfl).cell 4 _ rfl; have g5 := (HH.out.boxAt 0 rfl).cell 5 _ rfl; have g6 := (HH.out.boxAt 0 rfl).cell 6 _ rfl
                go_wp2_with fail
                clear g0 g1 g2 g3 g4 g5 g6
                refine (hst_any wr T ⟨gA, i, gc, gx⟩ hTA hG4).mono ?_
                rintro e w8 ⟨rfl, e8⟩
                rw [hB]
                have HE8 := Lib.hid (HH.out.ext.trans e8)
                clear HH e8 hTA hG4 hB
                obtain ⟨s0, s1, s2, s3, s4, s5, s6⟩ := HSB.out _ HE8.out
                rw [HSf.out.2.2.2] at s5 HCk
                go_wp2_with fail
                clear s0 s1 s2 s3 s4 s5 s6
                refine (HCk.out _ HE8.out).mono ?_
                rintro e w9 ⟨rfl, e9⟩
                go_wp2_with fail
                go_ret
                exact ⟨rfl, HEw.out.trans (HE8.out.trans e9)⟩
end Go.Proofs.YtfongpdeflfioaaGreat
/-
  FOR A PROOF OF AN '..UptoSaid': WHAT THE BOUND GIVES. Copy it as <Name>Bulk.lean (put your seat's Name for YtfongpdeflfioaaGreat, the bound of 'uptoSmall' for 1048576), name it in GOCLAIM.json's 'order' behind <Name>Rows. By an AI agent, Sun Nov 15 2026. No person has read it. No macro, syntax, notation, axiom, sorry.
-/
namespace Go.Proofs.YtfongpdeflfioaaGreat.bulks
theorem one_le {H : Type} (d : DataW H) : 1 ≤ Rows.uptoBulk d := by
  cases d with
  | lit l => cases l <;> simp [Rows.uptoBulk]
  | nil => simp [Rows.uptoBulk]
  | ptr d => simp [Rows.uptoBulk]
  | slice elems spare => simp [Rows.uptoBulk]
  | agg parts => simp [Rows.uptoBulk]
  | iface t d => simp [Rows.uptoBulk]
  | map entries => simp [Rows.uptoBulk]
  | held h => simp [Rows.uptoBulk]
theorem part_le {H : Type} {d : DataW H} {l : List (DataW H)} (h : d ∈ l) : Rows.uptoBulk d ≤ Rows.uptoBulkAll l := by
  induction l with
  | nil => cases h
  | cons x r ih =>
    simp only [Rows.uptoBulkAll]
    cases List.mem_cons.1 h with
    | inl e => subst e; omega
    | inr e => have := ih e; omega
theorem append {H : Type} (l r : List (DataW H)) : Rows.uptoBulkAll (l ++ r) = Rows.uptoBulkAll l + Rows.uptoBulkAll r := by
  induction l with
  | nil => simp [Rows.uptoBulkAll]
  | cons x l ih => simp only [List.cons_append, Rows.uptoBulkAll, ih]; omega
theorem length_le {H : Type} (l : List (DataW H)) : l.length ≤ Rows.uptoBulkAll l := by
  induction l with
  | nil => simp [Rows.uptoBulkAll]
  | cons x r ih => have := one_le x; simp only [Rows.uptoBulkAll, List.length_cons]; omega
theorem slice_le {H : Type} (elems spare : List (DataW H)) : elems.length + spare.length + 1 ≤ Rows.uptoBulk (.slice elems spare) := by
  have h1 := length_le elems
  have h2 := length_le spare
  simp only [Rows.uptoBulk]
  omega
theorem slice_elems {H : Type} (elems spare : List (DataW H)) : Rows.uptoBulkAll elems + 1 ≤ Rows.uptoBulk (.slice elems spare) := by
  simp only [Rows.uptoBulk]
  omega
theorem string_eq {H : Type} (bytes : List UInt8) : Rows.uptoBulk (DataW.lit (H := H) (.string bytes)) = bytes.length + 1 := by
  simp [Rows.uptoBulk]
theorem bound {H : Type} {l : List (DataW H)} (hk : Rows.uptoSmall H l = true) : Rows.uptoBulkAll l ≤ 1048576 := by
  simpa [Rows.uptoSmall] using hk
theorem room {n b : Nat} (hn : n ≤ 2097152) (hb : b ≤ 4096) : (n + n / 4 + 192) * b ≤ 281474976710656 := by
  have h : (n + n / 4 + 192) * b ≤ 2621632 * 4096 := Nat.mul_le_mul (by omega) hb
  omega
end Go.Proofs.YtfongpdeflfioaaGreat.bulks
