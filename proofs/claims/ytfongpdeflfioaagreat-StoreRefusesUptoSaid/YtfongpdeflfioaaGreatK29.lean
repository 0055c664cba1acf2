/- The texts Alt, Ale in one file. -/
import Derived.Test.YtfongpdeflfioaaGreatK28
/- godownlaw10.first and alive. -/
namespace Go.Proofs.YtfongpdeflfioaaGreat
open Go.RowKit Go.Maps Go.Sort Go.Shelf
set_option linter.unusedVariables false
set_option linter.unusedSimpArgs false

def fmtA (n : Nat) : Abs := ⟨fmtV n, ⟨2, 0, 0⟩, [], []⟩
theorem fmtA_ok {n : Nat} (h0 : 2 ≤ n) (h8 : n ≤ 8192) : (fmtA n).ok := by
  have hl : (fmtV n).length = n := by simp [fmtV]
  refine ⟨by show 2 ≤ (fmtV n).length; omega, by show (fmtV n).length ≤ 8192; omega, fun s hs => ?_, by show ubE ⟨2, 0, 0⟩ = 0; decide, Nat.zero_le _, rfl, by show risK [] = true; decide, (fun o ho => by cases ho), (fun y hy => by cases hy), List.nodup_nil, by show wE (idxS []) = 0; decide, fun _ => rfl, fun h => absurd rfl h⟩
  have hs2 : s ∈ fmtV n := hs
  rw [fmtV] at hs2
  rcases List.mem_or_eq_of_mem_set hs2 with h | h
  · rcases List.mem_or_eq_of_mem_set h with h | h
    · rw [(List.mem_replicate.1 h).2]; rfl
    · rw [h]; exact ueB_len _
  · rw [h]; exact ueB_len _
theorem fmt_holds {s : Sto} {n : Nat} {w : World} {lo hi : Nat} (h0 : 2 ≤ n) (h8 : n ≤ 8192) (ha : s.abs = fmtA n) (hk : s.abs.ok) : s.abs.holds := by
  have hl : (fmtV n).length = n := by simp [fmtV]
  refine ⟨hk, ⟨⟨2, 0, 0⟩, ⟨1, 0, 0⟩, by constructor <;> decide, by constructor <;> decide, by decide, by decide, by decide, by decide, ?_, ?_, ?_⟩, ?_, ?_, ?_⟩
  · rw [ha]
    show (fmtV n)[0]? = _
    rw [fmtV]
    exact List.getElem?_set_self (by simp; omega)
  · rw [ha]
    show (fmtV n)[1]? = _
    rw [fmtV, List.getElem?_set_ne (by decide)]
    exact List.getElem?_set_self (by simp; omega)
  · rw [ha]; rfl
  · rw [ha]; rfl
  · rw [ha]; intro k h; exact absurd h (Nat.not_lt_zero k)
  · rw [ha]; intro o ho; cases ho
set_option maxRecDepth 100000 in
set_option maxHeartbeats 4000000 in
theorem first_yes (w : World) (n : Nat) (h0 : 2 ≤ n) (h1 : n ≤ 8192) : Calls Tryz.prog 17 #[.int .i64 (n : Int)] w fun e w' => ∃ s : Sto, e = .returned (.tuple #[.agg s.cells.toArray, .bool true]) ∧ s.abs = fmtA n ∧ s.abs.holds ∧ s.dev.waits.n = 0 ∧ Sto.At w' w.heap.size w'.heap.size s ∧ Ext w w' := by
  have H0 := Lib.hid h0
  go_enter Tryz.func17, Tryz.ntmps17
  go_upto_region 1 with fail
  generalize hwH : World.alloc w _ = w1; have HH := Lib.hid (Heap.one hwH); clear hwH
  go_wp2_with fail
  refine (fmt_yes w1 n h0 h1).mono ?_
  rintro e w2 ⟨s, A, rfl, g1, g2, g3, g4, g5, g6, g7, hS, e2⟩
  have HA := Lib.hid (show s.abs = fmtA n by rw [Sto.abs, g1, g5, g6, g7]; rfl)
  have HW := Lib.hid g2
  have HK := Lib.hid (show s.abs.ok by rw [HA.out]; exact fmtA_ok h0 h1)
  have HHo := Lib.hid (fmt_holds (w := w2) (lo := 0) (hi := 0) h0 h1 HA.out HK.out)
  have HH2 := Lib.hid (HH.out.addLook e2 (J := fun W => Sto.At W w1.heap.size w2.heap.size s) (fun _ _ hr hh => hh.imp hr) (Nat.le_refl _) (Nat.le_refl _) hS)
  have HLe := Lib.hid (show w.heap.size ≤ w1.heap.size from HH.out.ext.size)
  clear HH g1 g2 g3 g4 g5 g6 g7 hS e2 h0
  have HH := HH2
  clear HH2
  have HFin := Lib.hid (fun (W : World) (its : List It) (i : Nat) (hW : Heap w its W) (hi : its[i]? = some (It.look (fun W => Sto.At W w1.heap.size w2.heap.size s) w1.heap.size w2.heap.size (fun _ _ hr hh => hh.imp hr))) => show ∃ s' : Sto, Ending.returned (.tuple #[.agg s.cells.toArray, .bool true]) = .returned (.tuple #[.agg s'.cells.toArray, .bool true]) ∧ s'.abs = fmtA n ∧ s'.abs.holds ∧ s'.dev.waits.n = 0 ∧ Sto.At W w.heap.size W.heap.size s' ∧ Ext w W from
    ⟨s, rfl, HA.out, HHo.out, HW.out, (hW.lookAt i hi).2.imp fun _ _ hr => hr.more HLe.out (hW.lookAt i hi).1, hW.ext⟩)
  clear HA HW HK HHo
  obtain ⟨⟨⟨sA, sn, sc, sx⟩, ⟨qA, qn, qc, qx⟩⟩, ⟨ut, uf, uo⟩, ⟨oA, on, oc, ox⟩, ⟨iA, im, ic, ix⟩⟩ := s
  simp only [Sto.cells, Sl.val] at *
  go_upto_region 2 with (refine shl_store (HH.out.alloc _ _) sizeSto rfl rfl rfl rfl 0 rfl rfl rfl rfl ?_; clear HH; intro wS HHS; have HH := Lib.hid HHS; clear HHS)
  have HHd := Lib.hid HH.out.drew
  clear HH
  refine wp_region_held_drew (S := Heap w [_]) (by kernel_rfl) (HHd.out.only 0 rfl) (fun hHeld => ?_)
  generalize World.drew _ = wd at *
  refine takeL 0 rfl (by kernel_rfl) (by kernel_rfl) (by kernel_rfl) (fun _ _ _ h => h) (by kernel_rfl) (fun wT hST => sh_run_load hST sizeSto (by kernel_rfl) rfl rfl 0 rfl (Nat.le_of_ble_eq_true rfl)) hHeld ?_; (try simp only [Act.put, lyA, lyB, lyC])
  refine takeL 1 (v := ?_) rfl (by kernel_rfl) (by kernel_rfl) (by kernel_rfl) (fun _ _ _ h => h) (by kernel_rfl) ?_ (by assumption) ?_; rotate_left; (focus (intro w hSw; (try dsimp only at hSw); go_simp <;> with_reducible rfl)); (try simp only [Act.put, lyA, lyB, lyC])
  clear hHeld
  refine oneL 2 rfl (by kernel_rfl) (by kernel_rfl) (fun K hK => ?_)
  go_simp
  refine (num10_any wd 0).mono ?_
  rintro e w5 ⟨rfl, rfl⟩
  go_wp2_with fail
  refine hK.out _ _ ((HHd).out.only 0 rfl) (fun hHeld => ?_); clear hK K; (try simp only [Act.put, lyA, lyB, lyC])
  refine takeL 3 (v := ?_) rfl (by kernel_rfl) (by kernel_rfl) (by kernel_rfl) (fun _ _ _ h => h) (by kernel_rfl) ?_ (by assumption) ?_; rotate_left; (focus (intro w hSw; (try dsimp only at hSw); go_simp <;> with_reducible rfl)); (try simp only [Act.put, lyA, lyB, lyC])
  refine takeL 4 (v := ?_) rfl (by kernel_rfl) (by kernel_rfl) (by kernel_rfl) (fun _ _ _ h => h) (by kernel_rfl) ?_ (by assumption) ?_; rotate_left; (focus (intro w hSw; (try dsimp only at hSw); go_simp <;> with_reducible rfl)); (try simp only [Act.put, lyA, lyB, lyC])
  refine takeL 5 (v := ?_) rfl (by kernel_rfl) (by kernel_rfl) (by kernel_rfl) (fun _ _ _ h => h) (by kernel_rfl) ?_ (by assumption) ?_; rotate_left; (focus (intro w hSw; (try dsimp only at hSw); go_simp <;> with_reducible rfl)); (try simp only [Act.put, lyA, lyB, lyC])
  refine takeL 6 (v := ?_) rfl (by kernel_rfl) (by kernel_rfl) (by kernel_rfl) (fun _ _ _ h => h) (by kernel_rfl) ?_ (by assumption) ?_; rotate_left; (focus (intro w hSw; (try dsimp only at hSw); go_simp <;> with_reducible rfl)); (try simp only [Act.put, lyA, lyB, lyC])
  refine takeL 7 (v := ?_) rfl (by kernel_rfl) (by kernel_rfl) (by kernel_rfl) (fun _ _ _ h => h) (by kernel_rfl) ?_ (by assumption) ?_; rotate_left; (focus (intro w hSw; (try dsimp only at hSw); go_simp <;> with_reducible rfl)); (try simp only [Act.put, lyA, lyB, lyC])
  refine takeL 8 (v := ?_) rfl (by kernel_rfl) (by kernel_rfl) (by kernel_rfl) (fun _ _ _ h => h) (by kernel_rfl) ?_ (by assumption) ?_; rotate_left; (focus (intro w hSw; (try dsimp only at hSw); go_simp <;> with_reducible rfl)); (try simp only [Act.put, lyA, lyB, lyC])
  clear hHeld
  refine oneL 9 rfl (by kernel_rfl) (by kernel_rfl) (fun K hK => ?_)
  refine sh_store HHd.out sizeSto rfl rfl rfl 2 rfl rfl (Nat.le_of_ble_eq_true rfl) rfl ?_
  intro w6 hh6
  have HH6 := Lib.hid hh6
  clear hh6 HHd
  refine hK.out _ _ ((HH6).out.only 0 rfl) (fun hHeld => ?_); clear hK K; (try simp only [Act.put, lyA, lyB, lyC])
  refine takeL 10 (v := ?_) rfl (by kernel_rfl) (by kernel_rfl) (by kernel_rfl) (fun _ _ _ h => h) (by kernel_rfl) ?_ (by assumption) ?_; rotate_left; (focus (intro w hSw; (try dsimp only at hSw); go_simp <;> with_reducible rfl)); (try simp only [Act.put, lyA, lyB, lyC])
  refine wpAnyH_done (by kernel_rfl) ?_ _
  clear hHeld
  go_wp2_with fail
  refine ret_cell2 sizeSto (by kernel_rfl) HH6.out rfl rfl rfl 2 rfl rfl rfl ?_
  exact HFin.out _ _ 1 HH6.out rfl
/-- store.Commit of a store that its device holds -/
def CaOut (w : World) (s : Sto) (l : List Ob) (e : Ending) (w' : World) : Prop :=
  (∃ E : Int, E ≠ 0 ∧ (rtE s l ≠ 0 ∧ E = rtE s l ∨ rtE s l = 0 ∧ E = 17 ∧ noRoom s l) ∧ e = .returned (.tuple #[.agg zSto.toArray, .slice none 0 0, .int .i64 E]) ∧ Ext w w') ∨
  (∃ nx acts A c W, e = .returned (.tuple #[.agg nx.cells.toArray, .slice A acts.length c, .int .i64 0]) ∧ acts.length ≤ c ∧ c ≤ maxLen ∧ Acs w' A acts.length c acts ∧ rtE s l = 0 ∧ CmLaw s nx l acts W ∧ Sto.At w' w.heap.size w'.heap.size nx ∧ Ext w w')
theorem commit_abs (w : World) (s : Sto) (l : Sl Ob) (h : Sto.At w 0 w.heap.size s) (ha : s.abs.holds) (hw : s.dev.waits.n = 0) (hl : Sl.At w 0 w.heap.size Ob.cells (Ob.At w 0 w.heap.size) l) : Calls Tryz.prog 20 #[.agg s.cells.toArray, l.val] w (CaOut w s l.xs) := by
  refine (commit_any w s l h (small_abs h ha.ok) hl).mono ?_
  rintro e w' (⟨E, hE, rfl, ee⟩ | ⟨nx, acts, A, c, rfl, h1, h2, h3, hy⟩)
  · have h0 := (sck_abs h).2 ⟨ha.ok, hw⟩
    refine .inl ⟨E, ?_, ?_, rfl, ee⟩
    · rcases hE with ⟨h, rfl⟩ | ⟨_, h, rfl⟩ | ⟨_, _, rfl, _⟩
      · decide
      · exact h
      · decide
    · rcases hE with ⟨h, rfl⟩ | ⟨_, h, rfl⟩ | ⟨_, h, rfl, h4⟩
      · exact absurd h0 h
      · exact .inl ⟨h, rfl⟩
      · exact .inr ⟨h, rfl, h4⟩
  · obtain ⟨W, hW⟩ := commit_law hy h ha (fun x hx => (hl.all x hx).data.len)
    exact .inr ⟨nx, acts, A, c, W, rfl, h1, h2, h3, hy.right, hW, hy.at_, hy.ext⟩
theorem rtE_ok {s : Sto} {l : List Ob} (h1 : l.length ≤ 256) (h2 : risB l = true) (h3 : ∀ x ∈ l, x.data.n ≤ 65536) (h4 : ((idxS (plcS l)).map fun t => 3 + t.size).sum ≤ 65000) (h6 : s.ub.txg < 1099511627776) : rtE s l = 0 := by
  have e3 : l.any longD = false := by
    rw [List.any_eq_false]
    intro x hx
    have := h3 x hx
    unfold longD
    simp
    omega
  have hm : ∀ (t : List ByteArray) (y : ByteArray), y ∈ t → y.size ≤ (t.map fun t => 3 + t.size).sum := fun t y hy => by
    induction t with
    | nil => cases hy
    | cons z t ih =>
      rw [List.map_cons, List.sum_cons]
      rcases List.mem_cons.1 hy with rfl | hy
      · omega
      · have := ih hy; omega
  have hE : wE (idxS (plcS l)) = 0 := (wE_zero _).2 ⟨by rw [idxS_len, plcS, List.length_map]; omega, fun y hy => by have := hm _ y hy; omega⟩
  have hB : (wB (idxS (plcS l))).length ≤ 65536 := by
    unfold wB
    rw [if_pos hE, flat_len]
    omega
  unfold rtE
  rw [if_neg (by omega), if_neg (by rw [h2]; decide), if_neg (by rw [e3]; decide), if_neg (by rintro (h | h) <;> omega), if_neg (by omega)]
/-- the page's example -/
def exO (A B : Option Addr) (c d : Nat) : Ob := ⟨⟨#[97]⟩, ⟨A, 1, c, [98]⟩, ⟨B, 0, d, []⟩⟩
theorem ex_right {s : Sto} (h : s.ub.txg = 2) (A B : Option Addr) (c d : Nat) : rtE s [exO A B c d] = 0 :=
  rtE_ok (by simp) (by rw [risB_keys]; show risK [⟨#[97]⟩] = true; decide) (fun x hx => by simp only [List.mem_singleton] at hx; subst hx; show 1 ≤ 65536; decide) (by
    have e : idxS (plcS [exO A B c d]) = [⟨#[97]⟩, num8 1, ⟨(numsO (List.replicate (cntP 1) 0)).toArray⟩] := by simp [idxS, plcS, exO]
    rw [e]
    have h8 : (num8 1).size = 8 := by show (puts 1 8).toArray.size = 8; simp [puts_length]
    have hl : (⟨(numsO (List.replicate (cntP 1) 0)).toArray⟩ : ByteArray).size = 8 := by
      show ((numsO (List.replicate (cntP 1) 0)).toArray).size = 8
      rw [List.size_toArray, numsO_len, List.length_replicate]
      decide
    simp only [List.map_cons, List.map_nil, List.sum_cons, List.sum_nil, h8, hl]
    decide) (by omega)
theorem ex_room {s : Sto} {w : World} {lo hi : Nat} (hs : Sto.At w lo hi s) (h : s.abs = fmtA 20) (A B : Option Addr) (c d : Nat) : ¬ noRoom s [exO A B c d] := by
  have hO : s.objs.xs = [] := by
    have h1 : s.objs.xs.map strip = [] := congrArg Abs.O h
    exact List.map_eq_nil_iff.1 h1
  have hX : s.idx.xs = [] := congrArg Abs.X h
  have hU : usedL s = [] := by rw [usedL, hO, hX]; rfl
  have hn : s.dev.secs.n = 20 := by
    rw [← secv_len hs, h]
    show (fmtV 20).length = 20
    simp [fmtV]
  have hF : freeL (s.dev.secs.n : Int) (usedL s) = upI 18 := by rw [hU, hn]; rfl
  have hP : plAll s [exO A B c d] = plStep s (upI 18, [], []) (exO A B c d) := by
    rw [plAll, hF]; rfl
  have hS := plStep_put (s := s) (st := (upI 18, [], [])) (x := exO A B c d) (by rw [hO]; rfl) (by rw [upI_len]; show cntP 1 ≤ 18; decide)
  rw [← hP] at hS
  intro hr
  have h1 := hr _ hS
  unfold plIdx at h1
  rw [if_neg (by simp)] at h1
  have hE : (wB (idxS [((exO A B c d).key, (exO A B c d).data.xs, (upI 18).take (cntP (exO A B c d).data.n))])).length ≤ 52 := by
    have e : idxS [((exO A B c d).key, (exO A B c d).data.xs, (upI 18).take (cntP (exO A B c d).data.n))] = [⟨#[97]⟩, num8 1, ⟨(numsO ((upI 18).take 1)).toArray⟩] := by
      have h9 : cntP (exO A B c d).data.n = 1 := by show cntP 1 = 1; decide
      rw [h9]
      simp [idxS, exO]
    have hl : ((numsO ((upI 18).take 1)).toArray).size = 8 := by
      rw [List.size_toArray, numsO_len, List.length_take, upI_len]; decide
    have h8 : (num8 1).size = 8 := by show (puts 1 8).toArray.size = 8; simp [puts_length]
    rw [e]
    unfold wB
    split
    · rw [flat_len]
      simp only [List.map_cons, List.map_nil, List.sum_cons, List.sum_nil, h8]
      rw [show (⟨(numsO ((upI 18).take 1)).toArray⟩ : ByteArray).size = 8 from hl]
      decide
    · decide
  rw [if_pos] at h1
  · cases h1
  · show cntP (wB (idxS [((exO A B c d).key, (exO A B c d).data.xs, (upI 18).take (cntP (exO A B c d).data.n))])).length ≤ ((upI 18).drop (cntP (exO A B c d).data.n)).length
    have h9 : cntP (exO A B c d).data.n = 1 := by show cntP 1 = 1; decide
    rw [List.length_drop, upI_len]
    rw [h9] at hE ⊢
    unfold cntP
    omega
end Go.Proofs.YtfongpdeflfioaaGreat
/- godownlaw10.alive: the page's example. -/
namespace Go.Proofs.YtfongpdeflfioaaGreat
open Go.RowKit Go.Maps Go.Sort Go.Shelf
set_option linter.unusedVariables false
set_option linter.unusedSimpArgs false

theorem one_of {xs : List Ob} {key : ByteArray} {d : List UInt8} (h : (xs.map strip).map (fun o => (o.1, o.2.1)) = [(key, d)]) : getB xs key = d ∧ (getO xs key).isSome = true := by
  cases xs with
  | nil => cases h
  | cons o xs =>
    simp only [List.map_cons, List.cons.injEq, strip, Prod.mk.injEq] at h
    have e : getO (o :: xs) key = some o := by
      rw [getO, List.find?_cons]
      simp [keyB, h.1.1]
    rw [getB, e]
    exact ⟨h.1.2, rfl⟩
set_option maxRecDepth 100000 in
set_option maxHeartbeats 8000000 in
theorem alive10_any (w : World) : Calls Tryz.prog 16 #[] w fun e w' => e = .returned (.bool true) ∧ Ext w w' := by
  go_enter Tryz.func16, Tryz.ntmps16
  go_wp2_with fail
  refine (first_yes w 20 (by decide) (by decide)).mono ?_
  rintro e w1 ⟨s, rfl, habs, hho, hw0, hS, e1⟩
  have HE1 := Lib.hid e1
  have HCm := Lib.hid (fun (W : World) (hW : Ext w1 W) (l : Sl Ob) (hl : Sl.At W 0 W.heap.size Ob.cells (Ob.At W 0 W.heap.size) l) => commit_abs W s l ((hS.on hW (Nat.le_refl _)).imp fun _ _ hr => hr.more (Nat.zero_le _) (Nat.le_refl _)) hho hw0 hl)
  have HNo := Lib.hid (fun (A B : Option Addr) (c d : Nat) => show rtE s [exO A B c d] = 0 ∧ ¬ noRoom s [exO A B c d] from
    ⟨ex_right (by have := congrArg Abs.u habs; show s.ub.txg = 2; rw [show s.ub = _ from this]; rfl) A B c d, ex_room hS habs A B c d⟩)
  clear habs hho hw0 hS e1
  have HH := Lib.hid (Heap.start w1)
  have HCs := Lib.hid (show s.cells = s.cells from rfl)
  obtain ⟨⟨⟨sA, sn, sc, sx⟩, ⟨qA, qn, qc, qx⟩⟩, ⟨ut, uf, uo⟩, ⟨oA, on, oc, ox⟩, ⟨iA, im, ic, ix⟩⟩ := s
  simp only [Sto.cells, Sl.val] at *
  go_upto_region 2 with (refine shl_store (HH.out.alloc _ _) sizeSto rfl rfl rfl rfl 0 rfl rfl rfl rfl ?_; clear HH; intro wS HHS; have HH := Lib.hid HHS; clear HHS)
  obtain ⟨tb, htb⟩ : ∃ b, b = w1.heap.size := ⟨_, rfl⟩
  rw [← htb] at HH ⊢
  clear htb
  have HR := HH.out.allocRow (w' := wS.alloc (.cells #[.int .u8 98] 5)) rfl (n := 1) (size := 1) rfl (by decide)
  obtain ⟨wM, hcv, HM⟩ := mark_heap Tryz.underlying33 Tryz.underlying5 HR 0 rfl
  clear HR
  go_wp2_with (refine shl_load HH.out sizeSto (by kernel_rfl) rfl rfl rfl 0 rfl rfl ?_)
  generalize hwA : World.alloc wM _ = w5
  have HH5 := Lib.hid (HM.allocE hwA)
  clear HM hcv hwA HH
  have HH := HH5
  clear HH5
  refine (HCm.out w5 HH.out.ext ⟨some ⟨wM.heap.size, 0, none⟩, 1, 1, [exO (some ⟨wS.heap.size, 0, none⟩) none 1 0]⟩ ⟨rfl, Nat.le_refl _, by simp only [maxLen]; omega, (HH.out.boxRd 0 rfl).more (Nat.zero_le _) (Nat.le_refl _), fun x hx => by
    simp only [List.mem_singleton] at hx
    subst hx
    exact ⟨by simp only [maxLen]; show 1 ≤ _; omega, ⟨rfl, Nat.le_refl _, by simp only [maxLen]; show 1 ≤ _; omega, by rw [octs_flat]; exact (HH.out.rdAt 1 rfl).more (Nat.zero_le _) (Nat.le_refl _), fun _ _ => trivial⟩, ⟨rfl, Nat.le_refl _, Nat.zero_le _, Rd.nil, fun _ hh => by cases hh⟩⟩⟩).mono ?_
  rintro e w6 (⟨E, hE, hh, rfl, ee⟩ | ⟨nx, acts, A, c, W, rfl, _, _, _, _, hlaw, hnx, e6⟩)
  · exfalso
    obtain ⟨h1, h2⟩ := HNo.out (some ⟨wS.heap.size, 0, none⟩) none 1 0
    rcases hh with ⟨h, _⟩ | ⟨_, _, h⟩
    · exact h h1
    · exact h2 h
  have HH6 := Lib.hid (HH.out.addLook e6 (J := fun W => Sto.At W w5.heap.size w6.heap.size nx) (fun _ _ hr hh => hh.imp hr) (Nat.le_refl _) (Nat.le_refl _) hnx)
  have HOp := Lib.hid (fun (W : World) (hW : Sto.At W 0 W.heap.size nx) => open_ok W nx.dev hW.dev hlaw.wait nx.abs rfl hlaw.holds)
  have HKd := Lib.hid (show nx.abs.O.map (fun o => (o.1, o.2.1)) = [((⟨#[97]⟩ : ByteArray), ([98] : List UInt8))] from hlaw.kd)
  have HFt := Lib.hid (show ∀ o ∈ nx.abs.O, o.2.1.length ≤ 65536 from fun o ho => (hlaw.holds.ok.fit o ho).1)
  clear HH HCm HNo hlaw hnx e6 HCs
  have HH := HH6
  clear HH6
  generalize nx.abs = a at *
  obtain ⟨⟨⟨eA, en, ec, ex⟩, ⟨gA, gn, gc, gx⟩⟩, ⟨vt, vf, vo⟩, ⟨pA, pn, pc, px⟩, ⟨jA, jm, jc, jx⟩⟩ := nx
  simp only [Sto.cells, Dev.cells, Sl.val] at *
  go_upto_region 3 with (refine shl_store HH.out sizeSto rfl rfl rfl rfl 3 rfl rfl rfl rfl ?_; clear HH; intro wS HHS; have HH := Lib.hid HHS; clear HHS)
  go_wp2_with (refine shl_load HH.out sizeDev (by kernel_rfl) rfl rfl rfl 3 rfl rfl ?_)
  refine (HOp.out _ ((HH.out.lookAt 0 rfl).2.imp fun _ _ hr => hr.more (Nat.zero_le _) (HH.out.lookAt 0 rfl).1)).mono ?_
  rintro e w8 ⟨t, rfl, ht, htw, htA, e8⟩
  clear htw
  have HH9 := Lib.hid (HH.out.addLook e8 (J := fun W => Sto.At W wS.heap.size w8.heap.size t) (fun _ _ hr hh => hh.imp hr) (Nat.le_refl _) (Nat.le_refl _) htA)
  have hO1 : t.objs.xs.map strip = a.O := congrArg Abs.O ht
  have HGt := Lib.hid (fun (W : World) (its : List It) (i : Nat) (hH : Heap w1 its W) (hi : its[i]? = some (It.look (fun W => Sto.At W wS.heap.size w8.heap.size t) wS.heap.size w8.heap.size (fun _ _ hr hh => hh.imp hr))) => show Calls Tryz.prog 27 #[.agg t.cells.toArray, .string ⟨#[97]⟩] W fun e w' => ∃ A c, e = .returned (.tuple #[.slice A 1 c, .bool true]) ∧ w'.ownsRow W.heap.size 5 1 (.slice A 1 c) 1 (bytes [98]) ∧ Ext W w' from by
    have hW : Sto.At W 0 W.heap.size t := (hH.lookAt i hi).2.imp fun _ _ hr => hr.more (Nat.zero_le _) (hH.lookAt i hi).1
    have h1 := one_of (xs := t.objs.xs) (by rw [hO1]; exact HKd.out)
    have h2 := get_any W t ⟨#[97]⟩ hW (fun o ho => by
      have h3 := HFt.out (strip o) (by rw [← hO1]; exact List.mem_map_of_mem ho)
      have h4 := (hW.objs.all o ho).data.len
      have h5 : o.data.xs.length ≤ 65536 := h3
      omega)
    unfold GtOut at h2
    rw [h1.1, h1.2] at h2
    exact h2)
  clear HH hO1 ht htA e8 HOp HKd HFt
  have HH := HH9
  clear HH9
  obtain ⟨⟨⟨fA, fn, fc, fx⟩, ⟨hA', hn', hc', hx'⟩⟩, ⟨zt, zf, zo⟩, ⟨rA, rn, rc, rx⟩, ⟨kA, km, kc, kx⟩⟩ := t
  simp only [Sto.cells, Dev.cells, Sl.val] at *
  go_upto_region 4 with (refine shl_store (HH.out.alloc _ _) sizeSto rfl rfl rfl rfl 0 rfl rfl rfl rfl ?_; clear HH; intro wS HHS; have HH := Lib.hid HHS; clear HHS)
  go_wp2_with (refine shl_load HH.out sizeSto (by kernel_rfl) rfl rfl rfl 0 rfl rfl ?_)
  refine (HGt.out _ _ 1 HH.out rfl).mono ?_
  rintro e w9 ⟨A9, c9, rfl, hown, e9⟩
  have HH9 := Lib.hid (HH.out.addRow e9 hown)
  clear HH hown e9 HGt
  have c1 := run_conv_str (P := Tryz.prog) w9 33 9 5 Tryz.underlying33 Tryz.underlying5 Tryz.underlying9 _ _ A9 1 c9 [98] rfl ((HH9.out.rowRd 0 rfl).more (Nat.zero_le _) (Nat.le_refl _))
  go_wp2_with (go_at_call 21; (refine (num10_any _ _).mono ?_); rintro e wN ⟨rfl, rfl⟩)
  go_ret
  exact ⟨rfl, HE1.out.trans HH9.out.ext⟩
end Go.Proofs.YtfongpdeflfioaaGreat
