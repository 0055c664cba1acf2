/- The texts Std, Fre in one file. -/
import Derived.Test.YtfongpdeflfioaaGreatS4
import Derived.Test.YtfongpdeflfioaaGreatS5
import Derived.Test.YtfongpdeflfioaaGreatS2
/- A store's data: objects, what reads; slices.ContainsFunc over numbers and objects; space.Check. -/
namespace Go.Proofs.YtfongpdeflfioaaGreat
open Go.RowKit Go.Maps Go.Sort Go.Shelf
set_option linter.unusedVariables false
set_option linter.unusedSimpArgs false
def intc (x : Int) : List Value := [.int .i64 x]
theorem ints_flat (l : List Int) : l.flatMap intc = ints l := by
  induction l with
  | nil => rfl
  | cons b l ih => rw [List.flatMap_cons, ih]; rfl
abbrev Loc := Sl Int
abbrev Loc.At (w : World) (lo hi : Nat) (s : Loc) : Prop := Sl.At w lo hi intc (fun y => (Lit.int .i64 y).wf = true) s
structure Ob where
  key : ByteArray
  data : Oct
  locs : Loc
def Ob.cells (x : Ob) : List Value := [.string x.key, x.data.val, x.locs.val]
structure Ob.At (w : World) (lo hi : Nat) (x : Ob) : Prop where
  key : x.key.size ≤ maxLen
  data : Oct.At w lo hi x.data
  locs : Loc.At w lo hi x.locs
structure Ub where
  txg : Int
  first : Int
  objs : Int
def Ub.cells (x : Ub) : List Value := [.int .i64 x.txg, .int .i64 x.first, .int .i64 x.objs]
structure Ub.wf (x : Ub) : Prop where
  t0 : -9223372036854775808 ≤ x.txg
  t1 : x.txg ≤ 9223372036854775807
  f0 : -9223372036854775808 ≤ x.first
  f1 : x.first ≤ 9223372036854775807
  o0 : -9223372036854775808 ≤ x.objs
  o1 : x.objs ≤ 9223372036854775807
structure Sto where
  dev : Dev
  ub : Ub
  objs : Sl Ob
  idx : Loc
def Sto.cells (x : Sto) : List Value := [x.dev.secs.val, x.dev.waits.val, .int .i64 x.ub.txg, .int .i64 x.ub.first, .int .i64 x.ub.objs, x.objs.val, x.idx.val]
structure Sto.At (w : World) (lo hi : Nat) (x : Sto) : Prop where
  dev : Dev.At w lo hi x.dev
  ub : x.ub.wf
  objs : Sl.At w lo hi Ob.cells (Ob.At w lo hi) x.objs
  idx : Loc.At w lo hi x.idx
section
variable {w w' : World} {lo hi lo' hi' : Nat}
theorem Loc.At.imp {s : Loc} (h : Loc.At w lo hi s) (hr : ∀ A cs, Rd w lo hi A cs → Rd w' lo' hi' A cs) : Loc.At w' lo' hi' s := Sl.At.imp h (hr _ _) (fun _ h => h)
theorem Ob.At.imp {s : Ob} (h : Ob.At w lo hi s) (hr : ∀ A cs, Rd w lo hi A cs → Rd w' lo' hi' A cs) : Ob.At w' lo' hi' s := ⟨h.key, Oct.At.imp h.data hr, Loc.At.imp h.locs hr⟩
theorem Sto.At.imp {s : Sto} (h : Sto.At w lo hi s) (hr : ∀ A cs, Rd w lo hi A cs → Rd w' lo' hi' A cs) : Sto.At w' lo' hi' s := ⟨h.dev.imp hr, h.ub, Sl.At.imp h.objs (hr _ _) (fun _ hx => Ob.At.imp hx hr), Loc.At.imp h.idx hr⟩
theorem Ob.At.on {s : Ob} (h : Ob.At w lo hi s) (e : Ext w w') (hh : hi ≤ w.heap.size) : Ob.At w' lo w'.heap.size s := h.imp (rd_on e hh)
theorem Sto.At.on {s : Sto} (h : Sto.At w lo hi s) (e : Ext w w') (hh : hi ≤ w.heap.size) : Sto.At w' lo w'.heap.size s := h.imp (rd_on e hh)
theorem Loc.At.on {s : Loc} (h : Loc.At w lo hi s) (e : Ext w w') (hh : hi ≤ w.heap.size) : Loc.At w' lo w'.heap.size s := h.imp (rd_on e hh)
theorem Loc.At.rdi {s : Loc} (h : Loc.At w lo hi s) : Rd w lo hi s.A (ints s.xs) := by rw [← ints_flat]; exact h.rd
end
set_option maxHeartbeats 400000 in
theorem idxi_any (w : World) (A : Option Addr) (n c : Nat) (xs : List Int) (hn : n = xs.length) (hm : n ≤ 9223372036854775807) (hr : Rd w 0 w.heap.size A (xs.flatMap intc)) (p : Int → Bool) (F : Value) (f : FuncId) (caps : Array Value) (hf : F = .func (.func f) #[] caps) (hcf : ∀ args w, (callFunc f args).run Tryz.prog w = .ok (.enter f args) w)
    (hF : ∀ x ∈ xs, ∀ w1, Ext w w1 → Calls Tryz.prog f (#[.int .i64 x] ++ caps) w1 fun e w' => e = .returned (.bool (p x)) ∧ Ext w1 w') :
    Calls Tryz.prog 126 #[.slice A n c, F] w fun e w' => ∃ r : Int, e = .returned (.int .i64 r) ∧ xs.any p = decide (0 ≤ r) ∧ -1 ≤ r ∧ Ext w w' := by
  subst hf
  have Hn := Lib.hid hn
  have HF := Lib.hid hF
  clear hn hF
  go_enter Tryz.func126, Tryz.ntmps126
  go_wp2_with fail
  go_loopw [8] (fun i wr => ∃ k : Nat, k ≤ n ∧ i = .int .i64 k ∧ Hid ((xs.take k).any p = false) ∧ Ext w wr) (fun i _ => n - (intOf i).toNat)
  case atStart => exact ⟨0, Nat.zero_le _, rfl, Lib.hid rfl, Ext.refl _⟩
  case round =>
    obtain ⟨k, hk, rfl, HK, e1⟩ := hrel
    by_cases hlt : k < n
    · have hl : k < xs.length := by rw [← Hn.out]; omega
      obtain ⟨b1, o1, rfl, _, hb1, G0⟩ := rd_flat (size := 1) (fun _ => rfl) (by omega) hr hl
      have HC := Lib.hid (HF.out xs[k] (List.getElem_mem _) wr e1)
      have hsnoc := Lib.hid (show (xs.take (k + 1)).any p = ((xs.take k).any p || p xs[k]) by rw [List.take_succ_eq_append_getElem hl, List.any_append]; simp)
      have hyes := Lib.hid (fun h : p xs[k] = true => List.any_eq_true.2 ⟨xs[k], List.getElem_mem _, h⟩)
      have G : ∀ j u, (intc xs[k])[j]? = some u → wr.cell? ⟨b1, o1 + k * 1 + j, none⟩ = some u := fun j u hu => by rw [Below.cell e1 hb1]; exact G0 j u hu
      generalize xs[k] = x at *
      have g0 := G 0 _ rfl
      simp only [Nat.add_zero, Nat.mul_one] at g0
      clear G G0
      go_wp2_with fail
      refine HC.out.mono ?_
      rintro e w2 ⟨rfl, e2⟩
      cases ho : p x
      · go_wp2_with fail
        go_roundw
        case rel =>
          exact ⟨k + 1, by omega, by go_num, Lib.hid (by rw [hsnoc.out, HK.out, ho]; rfl), by exact blo⟩
        case measure => simp [intOf]; omega
      · go_wp2_with fail
        go_ret
        refine ⟨k, rfl, ?_, by omega, by exact blo⟩
        rw [hyes.out ho]
        simp
    · go_wp2_with fail
      go_ret
      obtain rfl : k = n := by omega
      have h1 := HK.out
      rw [List.take_of_length_le (by rw [← Hn.out]; exact Nat.le_refl _)] at h1
      exact ⟨-1, rfl, by rw [h1]; rfl, by omega, e1⟩
theorem coni_any (w : World) (A : Option Addr) (n c : Nat) (xs : List Int) (hn : n = xs.length) (hm : n ≤ 9223372036854775807) (hr : Rd w 0 w.heap.size A (xs.flatMap intc)) (p : Int → Bool) (F : Value) (f : FuncId) (caps : Array Value) (hf : F = .func (.func f) #[] caps) (hcf : ∀ args w, (callFunc f args).run Tryz.prog w = .ok (.enter f args) w)
    (hF : ∀ x ∈ xs, ∀ w1, Ext w w1 → Calls Tryz.prog f (#[.int .i64 x] ++ caps) w1 fun e w' => e = .returned (.bool (p x)) ∧ Ext w1 w') :
    Calls Tryz.prog 88 #[.slice A n c, F] w fun e w' => e = .returned (.bool (xs.any p)) ∧ Ext w w' := by
  have H := Lib.hid (idxi_any w A n c xs hn hm hr p F f caps hf hcf hF)
  clear hn hF hr hm hf hcf
  go_enter Tryz.func88, Tryz.ntmps88
  go_wp2_with fail
  refine H.out.mono ?_
  rintro e w2 ⟨r, rfl, hany, hr1, e2⟩
  have HA := Lib.hid hany
  clear hany
  go_wp2_with fail
  go_ret
  exact ⟨by rw [HA.out]; rfl, e2⟩
set_option maxHeartbeats 400000 in
theorem idxb_any (w : World) (A : Option Addr) (n c : Nat) (xs : List Ob) (hn : n = xs.length) (hm : n ≤ 9223372036854775807) (hr : Rd w 0 w.heap.size A (xs.flatMap Ob.cells)) (p : Ob → Bool) (F : Value) (f : FuncId) (caps : Array Value) (hf : F = .func (.func f) #[] caps) (hcf : ∀ args w, (callFunc f args).run Tryz.prog w = .ok (.enter f args) w)
    (hF : ∀ x ∈ xs, ∀ w1, Ext w w1 → Calls Tryz.prog f (#[.agg x.cells.toArray] ++ caps) w1 fun e w' => e = .returned (.bool (p x)) ∧ Ext w1 w') :
    Calls Tryz.prog 87 #[.slice A n c, F] w fun e w' => ∃ r : Int, e = .returned (.int .i64 r) ∧ xs.any p = decide (0 ≤ r) ∧ -1 ≤ r ∧ Ext w w' := by
  subst hf
  have Hn := Lib.hid hn
  have HF := Lib.hid hF
  clear hn hF
  go_enter Tryz.func87, Tryz.ntmps87
  go_wp2_with fail
  go_loopw [8] (fun i wr => ∃ k : Nat, k ≤ n ∧ i = .int .i64 k ∧ Hid ((xs.take k).any p = false) ∧ Ext w wr) (fun i _ => n - (intOf i).toNat)
  case atStart => exact ⟨0, Nat.zero_le _, rfl, Lib.hid rfl, Ext.refl _⟩
  case round =>
    obtain ⟨k, hk, rfl, HK, e1⟩ := hrel
    by_cases hlt : k < n
    · have hl : k < xs.length := by rw [← Hn.out]; omega
      obtain ⟨b1, o1, rfl, _, hb1, G0⟩ := rd_flat (size := 3) (fun _ => rfl) (by omega) hr hl
      have HC := Lib.hid (HF.out xs[k] (List.getElem_mem _) wr e1)
      have hsnoc := Lib.hid (show (xs.take (k + 1)).any p = ((xs.take k).any p || p xs[k]) by rw [List.take_succ_eq_append_getElem hl, List.any_append]; simp)
      have hyes := Lib.hid (fun h : p xs[k] = true => List.any_eq_true.2 ⟨xs[k], List.getElem_mem _, h⟩)
      have G : ∀ j u, (Ob.cells xs[k])[j]? = some u → wr.cell? ⟨b1, o1 + k * 3 + j, none⟩ = some u := fun j u hu => by rw [Below.cell e1 hb1]; exact G0 j u hu
      generalize xs[k] = x at *
      have g0 := G 0 _ rfl; have g1 := G 1 _ rfl; have g2 := G 2 _ rfl
      simp only [Nat.add_zero, Nat.mul_one] at g0
      clear G G0
      go_wp2_with fail
      refine HC.out.mono ?_
      rintro e w2 ⟨rfl, e2⟩
      cases ho : p x
      · go_wp2_with fail
        go_roundw
        case rel =>
          exact ⟨k + 1, by omega, by go_num, Lib.hid (by rw [hsnoc.out, HK.out, ho]; rfl), by exact blo⟩
        case measure => simp [intOf]; omega
      · go_wp2_with fail
        go_ret
        refine ⟨k, rfl, ?_, by omega, by exact blo⟩
        rw [hyes.out ho]
        simp
    · go_wp2_with fail
      go_ret
      obtain rfl : k = n := by omega
      have h1 := HK.out
      rw [List.take_of_length_le (by rw [← Hn.out]; exact Nat.le_refl _)] at h1
      exact ⟨-1, rfl, by rw [h1]; rfl, by omega, e1⟩
theorem conb_any (w : World) (A : Option Addr) (n c : Nat) (xs : List Ob) (hn : n = xs.length) (hm : n ≤ 9223372036854775807) (hr : Rd w 0 w.heap.size A (xs.flatMap Ob.cells)) (p : Ob → Bool) (F : Value) (f : FuncId) (caps : Array Value) (hf : F = .func (.func f) #[] caps) (hcf : ∀ args w, (callFunc f args).run Tryz.prog w = .ok (.enter f args) w)
    (hF : ∀ x ∈ xs, ∀ w1, Ext w w1 → Calls Tryz.prog f (#[.agg x.cells.toArray] ++ caps) w1 fun e w' => e = .returned (.bool (p x)) ∧ Ext w1 w') :
    Calls Tryz.prog 42 #[.slice A n c, F] w fun e w' => e = .returned (.bool (xs.any p)) ∧ Ext w w' := by
  have H := Lib.hid (idxb_any w A n c xs hn hm hr p F f caps hf hcf hF)
  clear hn hF hr hm hf hcf
  go_enter Tryz.func42, Tryz.ntmps42
  go_wp2_with fail
  refine H.out.mono ?_
  rintro e w2 ⟨r, rfl, hany, hr1, e2⟩
  have HA := Lib.hid hany
  clear hany
  go_wp2_with fail
  go_ret
  exact ⟨by rw [HA.out]; rfl, e2⟩
def badN (total : Int) (y : Int) : Bool := decide (y < 2) || decide (total ≤ y)
set_option maxRecDepth 100000 in
theorem spc1_any (w : World) (b : Nat) (total y : Int) (hb : w.cell? ⟨b, 0, none⟩ = some (.int .i64 total)) :
    Calls Tryz.prog 89 #[.int .i64 y, .pointer (some ⟨b, 0, none⟩)] w fun e w' => e = .returned (.bool (badN total y)) ∧ Ext w w' := by
  have hG := Lib.hid (show badN total y = (decide (y < 2) || decide (total ≤ y)) from rfl)
  generalize badN total y = v at *
  by_cases h1 : y < 2
  · go_enter Tryz.func89, Tryz.ntmps89
    go_wp2_with fail
    go_ret
    exact ⟨retB (by rw [hG.out]; simp [h1]), Ext.refl _⟩
  · by_cases h2 : total ≤ y
    · go_enter Tryz.func89, Tryz.ntmps89
      go_wp2_with fail
      go_ret
      exact ⟨retB (by rw [hG.out]; simp [h1, h2]), Ext.refl _⟩
    · go_enter Tryz.func89, Tryz.ntmps89
      go_wp2_with fail
      go_ret
      exact ⟨retB (by rw [hG.out]; simp [h1, h2]), Ext.refl _⟩
theorem call_spc1 : ∀ args w, (callFunc 89 args).run Tryz.prog w = .ok (.enter 89 args) w := callF Tryz.func89 (by kernel_rfl) rfl
def spE (total : Int) (l : List Int) : Int := if total < 2 ∨ 8192 < total ∨ l.any (badN total) = true then 4 else if (uni l).length ≠ l.length then 6 else 0
set_option maxRecDepth 100000 in
set_option maxHeartbeats 4000000 in
theorem spcheck_any (w : World) (total : Int) (s : Loc) (h : Loc.At w 0 w.heap.size s) (hN : s.n ≤ 10000000) :
    Calls Tryz.prog 44 #[.int .i64 total, s.val] w fun e w' => e = .returned (.int .i64 (spE total s.xs)) ∧ Ext w w' := by
  have hT := h.len
  have HC := Lib.hid (fun W (hW : Ext w W) b (hb : W.cell? ⟨b, 0, none⟩ = some (.int .i64 total)) => coni_any W s.A s.n s.c s.xs h.len (by omega) (Rd.at h.rd hW (Nat.le_refl _)) (badN total) (.func (.func 89) #[] #[.pointer (some ⟨b, 0, none⟩)]) 89 #[.pointer (some ⟨b, 0, none⟩)] rfl call_spc1
    (fun x hx w2 e2 => spc1_any w2 b total x ((Below.cell e2 (World.block_lt_of_cell? W _ hb)).trans hb)))
  have HU := Lib.hid (fun W (hW : Ext w W) (b : Nat) (hb : Rd W 0 W.heap.size (some ⟨b, 0, none⟩) ([(⟨s.A, s.n, s.c, s.xs⟩ : SlI)].map SlI.val)) => union_any W (some ⟨b, 0, none⟩) 1 1 [⟨s.A, s.n, s.c, s.xs⟩] rfl (by decide) hb (by
    intro x hx
    obtain rfl := List.mem_singleton.1 hx
    exact ⟨h.len, Rd.at h.rdi hW (Nat.le_refl _), h.all⟩) (by simp [flatI]; omega))
  have HE := Lib.hid (show spE total s.xs = if total < 2 ∨ 8192 < total ∨ s.xs.any (badN total) = true then 4 else if (uni s.xs).length ≠ s.xs.length then 6 else 0 from rfl)
  have HL := Lib.hid h.len
  have hfl : flatI [(⟨s.A, s.n, s.c, s.xs⟩ : SlI)] = s.xs := by simp [flatI]
  rw [hfl] at HU
  clear h hfl hT
  generalize spE total s.xs = E at *
  obtain ⟨A, n, c, xs⟩ := s
  simp only [Sl.val] at *
  generalize hq : (xs.any (badN total)) = B at *
  have HUl := Lib.hid (Nat.le_trans (uni_len xs) (show xs.length ≤ 10000000 by rw [← HL.out]; exact hN))
  generalize uni xs = U at *
  rcases Int.lt_or_le total 2 with q0 | q0
  · have HV := Lib.hid (show E = 4 by rw [HE.out, if_pos (.inl q0)])
    go_enter Tryz.func44, Tryz.ntmps44
    go_upto_region 1 with fail
    generalize hw1 : World.alloc w _ = w1; obtain ⟨ew1, zw1, Gw1⟩ := box_cells hw1; have gw1_0 := Gw1 0 _ rfl; have Zw1 := Lib.hid zw1; clear zw1 hw1 Gw1; have rw1 := Ext.refl w1
    have q0' := gw1_0 w1 (Ext.refl _)
    go_wp2_with fail
    go_ret
    exact ⟨retI HV.out.symm, by exact blo⟩
  · rcases Int.lt_or_le 8192 total with q1 | q1
    · have HV := Lib.hid (show E = 4 by rw [HE.out, if_pos (.inr (.inl q1))])
      go_enter Tryz.func44, Tryz.ntmps44
      go_upto_region 1 with fail
      generalize hw1 : World.alloc w _ = w1; obtain ⟨ew1, zw1, Gw1⟩ := box_cells hw1; have gw1_0 := Gw1 0 _ rfl; have Zw1 := Lib.hid zw1; clear zw1 hw1 Gw1; have rw1 := Ext.refl w1
      have q0' := gw1_0 w1 (Ext.refl _)
      go_wp2_with fail
      go_ret
      exact ⟨retI HV.out.symm, by exact blo⟩
    · go_enter Tryz.func44, Tryz.ntmps44
      go_upto_region 1 with fail
      generalize hw1 : World.alloc w _ = w1; obtain ⟨ew1, zw1, Gw1⟩ := box_cells hw1; have gw1_0 := Gw1 0 _ rfl; have Zw1 := Lib.hid zw1; clear zw1 hw1 Gw1; have rw1 := Ext.refl w1
      have q0' := gw1_0 w1 (Ext.refl _)
      have HC1 := Lib.hid (HC.out w1 ew1 _ q0')
      clear HC gw1_0 Zw1
      cases B
      · go_wp2_with (go_at_call 88; refine HC1.out.mono ?_; rintro e w2 ⟨rfl, e2⟩)
        generalize hw3 : World.alloc w2 _ = w3; obtain ⟨ew3, zw3, Gw3⟩ := box_cells hw3; have gw3_0 := Gw3 0 _ rfl; have Zw3 := Lib.hid zw3; clear zw3 hw3 Gw3; have rw3 := Ext.refl w3
        have HB := Lib.hid (show Rd w3 0 w3.heap.size (some ⟨w2.heap.size, 0, none⟩) ([(⟨A, n, c, xs⟩ : SlI)].map SlI.val) from fun _ => ⟨w2.heap.size, 0, rfl, Nat.zero_le _, by rw [Zw3.out]; omega, fun j u hu => by
          obtain ⟨hj, rfl⟩ := List.getElem?_eq_some_iff.1 hu
          obtain rfl : j = 0 := by simpa using hj
          exact gw3_0 w3 (Ext.refl _)⟩)
        have E3 : Ext w w3 := (ew1.trans e2).trans ew3
        clear rw1 rw3 ew1 e2 ew3 gw3_0 Zw3
        refine (HU.out w3 E3 _ HB.out).mono ?_
        rintro e w4 ⟨v, rfl, hr4, e4⟩
        obtain ⟨A4, c4, rfl, _, _, _⟩ := own_form hr4
        clear hr4 HB HU
        have HV := Lib.hid (show E = if U.length ≠ xs.length then 6 else 0 by rw [HE.out, if_neg (by simp; omega)])
        rw [← HL.out] at HV
        by_cases hu : U.length = n
        · have HV2 := Lib.hid (show E = 0 by rw [HV.out, if_neg (by omega)])
          have hu2 : (U.length : Int) = (n : Int) := by omega
          clear hu
          go_wp2_with fail
          go_ret
          exact ⟨retI HV2.out.symm, by exact E3.trans e4⟩
        · have HV2 := Lib.hid (show E = 6 by rw [HV.out, if_pos hu])
          have hu2 : ¬ (U.length : Int) = (n : Int) := by omega
          clear hu
          go_wp2_with fail
          go_ret
          exact ⟨retI HV2.out.symm, by exact E3.trans e4⟩
      · have HV := Lib.hid (show E = 4 by rw [HE.out, if_pos (.inr (.inr rfl))])
        go_wp2_with (go_at_call 88; refine HC1.out.mono ?_; rintro e w2 ⟨rfl, e2⟩)
        go_ret
        exact ⟨retI HV.out.symm, by exact ew1.trans e2⟩
end Go.Proofs.YtfongpdeflfioaaGreat
/- space.Free: the sectors that are not used. -/
namespace Go.Proofs.YtfongpdeflfioaaGreat
open Go.RowKit Go.Maps Go.Sort Go.Shelf
set_option linter.unusedVariables false
set_option linter.unusedSimpArgs false
def upI (k : Nat) : List Int := (List.range k).map fun j => ((j : Nat) : Int) + 2
theorem upI_succ (k : Nat) : upI (k + 1) = upI k ++ [(k : Int) + 2] := by simp [upI, List.range_succ]
theorem upI_len (k : Nat) : (upI k).length = k := by simp [upI]
theorem mem_upI {k : Nat} {x : Int} : x ∈ upI k ↔ 2 ≤ x ∧ x < (k : Int) + 2 := by
  simp only [upI, List.mem_map, List.mem_range]
  constructor
  · rintro ⟨j, hj, rfl⟩
    omega
  · rintro ⟨h1, h2⟩
    exact ⟨(x - 2).toNat, by omega, by omega⟩
theorem insI_last {n : Int} : ∀ {l : List Int}, (∀ x ∈ l, x < n) → insI n l = l ++ [n]
  | [], _ => rfl
  | y :: r, h => by
    have hy := h y List.mem_cons_self
    rw [insI, if_neg (by omega), insI_last fun x hx => h x (List.mem_cons_of_mem _ hx)]
    rfl
theorem delI_none {n : Int} {l : List Int} (h : n ∉ l) : delI l n = l := by
  rw [delI, List.filter_eq_self]
  intro a ha
  have : a ≠ n := fun e => h (e ▸ ha)
  simpa using this
theorem upI_put (k : Nat) : putI (upI k) ((k : Int) + 2) = upI (k + 1) := by
  have hn : ((k : Int) + 2) ∉ upI k := fun h => by have := (mem_upI.1 h).2; omega
  rw [putI, delI_none hn, insI_last (fun x hx => (mem_upI.1 hx).2), upI_succ]
theorem upI_sorted : ∀ k, SortI (upI k)
  | 0 => List.Pairwise.nil
  | k + 1 => by rw [← upI_put]; exact putI_sorted (upI_sorted k)
def freeL (total : Int) (l : List Int) : List Int := l.foldl delI (upI (total - 2).toNat)
theorem freeL_snoc (a l : List Int) (n : Int) : (l ++ [n]).foldl delI a = delI (l.foldl delI a) n := by simp
theorem foldDel_sorted : ∀ (l a : List Int), SortI a → SortI (l.foldl delI a)
  | [], _, h => h
  | x :: l, a, h => foldDel_sorted l _ (delI_sorted h)
theorem mem_foldDel {x : Int} : ∀ (l a : List Int), x ∈ l.foldl delI a ↔ x ∈ a ∧ x ∉ l
  | [], a => by simp
  | y :: l, a => by
    rw [List.foldl_cons, mem_foldDel l, mem_delI, List.mem_cons]
    constructor
    · rintro ⟨⟨h1, h2⟩, h3⟩
      exact ⟨h1, fun h => h.elim h2 h3⟩
    · rintro ⟨h1, h2⟩
      exact ⟨⟨h1, fun h => h2 (.inl h)⟩, fun h => h2 (.inr h)⟩
theorem foldDel_len : ∀ (l a : List Int), (l.foldl delI a).length ≤ a.length
  | [], _ => Nat.le_refl _
  | y :: l, a => Nat.le_trans (foldDel_len l _) (List.length_filter_le _ _)
theorem mem_freeL {total x : Int} {l : List Int} (h : 2 ≤ total) : x ∈ freeL total l ↔ 2 ≤ x ∧ x < total ∧ x ∉ l := by
  rw [freeL, mem_foldDel, mem_upI]
  constructor
  · rintro ⟨⟨h1, h2⟩, h3⟩
    exact ⟨h1, by omega, h3⟩
  · rintro ⟨h1, h2, h3⟩
    exact ⟨⟨h1, by omega⟩, h3⟩
def FrOut (w : World) (E : Int) (l : List Int) (e : Ending) (w' : World) : Prop :=
  ∃ v, e = .returned (.tuple #[v, .int .i64 E]) ∧ (E = 0 → w'.ownsRow w.heap.size 3 1 v l.length (ints l)) ∧ Ext w w'
set_option maxRecDepth 100000 in
set_option maxHeartbeats 4000000 in
theorem spfree_any (w : World) (total : Int) (s : Loc) (h : Loc.At w 0 w.heap.size s) (hN : s.n ≤ 10000000) :
    Calls Tryz.prog 36 #[.int .i64 total, s.val] w (FrOut w (spE total s.xs) (freeL total s.xs)) := by
  have hmm := @run_makeMap Tryz.prog
  have HC := Lib.hid (spcheck_any w total s h hN)
  have HL := Lib.hid h.len
  have HR := Lib.hid h.rdi
  have HW := Lib.hid h.all
  have hb : spE total s.xs = 0 → 2 ≤ total ∧ total ≤ 8192 := fun h0 => by
    unfold spE at h0
    split at h0
    · cases h0
    · rename_i h1
      omega
  have HB := Lib.hid hb
  clear h hb
  generalize spE total s.xs = E at *
  obtain ⟨A, n, c, xs⟩ := s
  simp only [Sl.val] at *
  by_cases hE : E = 0
  · subst hE
    obtain ⟨t0, t1⟩ := HB.out rfl
    obtain ⟨T, hT⟩ : ∃ T : Nat, total = (T : Int) + 2 := ⟨(total - 2).toNat, by omega⟩
    subst hT
    have HF := Lib.hid (show freeL ((T : Int) + 2) xs = xs.foldl delI (upI T) by rw [freeL]; congr 2; omega)
    generalize freeL ((T : Int) + 2) xs = fl at *
    go_enter Tryz.func36, Tryz.ntmps36
    go_upto_region 5 with (go_at_call 44; refine HC.out.mono ?_; rintro e w1 ⟨rfl, e1⟩)
    have HM0 := Lib.hid (show MapI (w1.alloc (.map #[] 0)) w1.heap.size 0 [] from World.ownsMap_made _ _ _ _)
    have E0 : Ext w (w1.alloc (.map #[] 0)) := e1.alloc _
    have hz := e1.size
    obtain ⟨b, hb⟩ : ∃ b, b = w1.heap.size := ⟨_, rfl⟩
    rw [← hb] at HM0 hz ⊢
    generalize World.alloc w1 _ = w2 at *
    clear hb HC HB
    go_upto_region 6 with fail
    go_loopw [8] (fun i wr => ∃ k : Nat, k ≤ T ∧ i = .int .i64 ((k : Int) + 2) ∧ Hid (MapI wr b k (upI k)) ∧ Ext w wr) (fun i _ => T + 2 - (intOf i).toNat)
    case atStart => exact ⟨0, Nat.zero_le _, rfl, HM0, E0⟩
    case round =>
      clear HM0 E0
      obtain ⟨k, hk, rfl, HM, e2⟩ := hrel
      by_cases hlt : k < T
      · have HP := Lib.hid (upI_put k)
        generalize upI k = out at *
        have hkl : (Lit.int .i64 ((k : Int) + 2)).wf = true := by
          simp only [Lit.wf, Bool.and_eq_true, decide_eq_true_eq]
          exact ⟨by show (-9223372036854775808 : Int) ≤ _; omega, by show _ ≤ (9223372036854775807 : Int); omega⟩
        go_wp2_with
          (at_mapUpdate
           refine wpList_mapUpdate_own _ rfl _ _ _ 118 rfl 3 4 lawI Tryz.underlying118 _ b _ _ rfl HM.out (by simp only [maxLen]; omega) _ _ _ rfl rfl (Maps.keyOf_int_mk Tryz.underlying3 hkl) _ [] (plainElem_bool Tryz.underlying4 true) ?_
           intro w4 hm4 hg4)
        have e4 : Ext w w4 := ext_mapped e2 hg4 hz
        have hm5 : MapI w4 b (k + 1) (putI out ((k : Int) + 2)) := by
          have h := dmI_put out ((k : Int) + 2)
          show w4.ownsMap _ _ _ _ _ (dmI _)
          rw [← h]
          exact hm4
        have HM5 := Lib.hid hm5
        clear hm4 hg4 hm5 e2 hkl
        go_wp2_with fail
        go_roundw
        case rel =>
          refine ⟨k + 1, by omega, by go_num, Lib.hid ?_, e4⟩
          rw [← HP.out]
          exact HM5.out
        case measure => simp [intOf]; omega
      · obtain rfl : k = T := by omega
        go_upto_region 10 with fail
        go_loopw [27] (fun i wr2 => ∃ j : Nat, j ≤ n ∧ i = .int .i64 j ∧ Hid (MapI wr2 b k ((xs.take j).foldl delI (upI k))) ∧ Ext w wr2) (fun i _ => n - (intOf i).toNat)
        case atStart => exact ⟨0, Nat.zero_le _, rfl, HM, e2⟩
        case round =>
          clear HM e2
          obtain ⟨j, hj, rfl, HM, e3⟩ := hrel
          by_cases hlj : j < n
          · have l3 : j < xs.length := by rw [← HL.out]; exact hlj
            obtain ⟨b2, o2, rfl, _, g0⟩ := rd_int2 (Rd.at HR.out e3 (Nat.le_refl _)) l3
            have HT2 := Lib.hid (show (xs.take (j + 1)).foldl delI (upI k) = delI ((xs.take j).foldl delI (upI k)) xs[j] by rw [List.take_succ_eq_append_getElem l3, freeL_snoc])
            have HWy := Lib.hid (HW.out _ (List.getElem_mem l3))
            generalize (xs.take j).foldl delI (upI k) = out at *
            generalize xs[j] = y at *
            go_wp2_with
              (at_delete
               refine wpList_delete_own _ rfl _ _ 118 3 rfl 4 lawI Tryz.underlying118 _ b _ _ rfl HM.out _ _ rfl (Maps.keyOf_int_mk Tryz.underlying3 HWy.out) ?_
               intro w4 hm4 hg4)
            have e4 : Ext w w4 := ext_mapped e3 hg4.grown hz
            have hm5 : MapI w4 b k (delI out y) := by
              have h := dmI_del out y
              show w4.ownsMap _ _ _ _ _ (dmI _)
              rw [← h]
              exact hm4
            have HM5 := Lib.hid hm5
            clear hm4 hg4 hm5 e3
            go_wp2_with fail
            go_roundw
            case rel =>
              refine ⟨j + 1, by omega, by go_num, Lib.hid ?_, e4⟩
              rw [HT2.out]
              exact HM5.out
            case measure => simp [intOf]; omega
          · obtain rfl : j = n := by omega
            have ht : xs.take j = xs := List.take_of_length_le (by rw [← HL.out]; exact Nat.le_refl _)
            rw [ht, ← HF.out] at HM
            have HSo := Lib.hid (show SortI fl by rw [HF.out]; exact foldDel_sorted _ _ (upI_sorted _))
            have HLe := Lib.hid (show fl.length ≤ 100000000 by
              rw [HF.out]
              have := foldDel_len xs (upI k)
              rw [upI_len] at this
              omega)
            clear ht
            go_wp2_with (go_at_call 75; refine (keys_calls wr b _ _ HSo.out HLe.out HM.out).mono ?_; rintro e w5 ⟨vf, rfl, e5, hcall⟩)
            refine hcall.mono ?_
            rintro e w6 ⟨v, rfl, hr6, e6⟩
            have HO := Lib.hid (own_lower hr6 e3.size)
            clear hr6 hcall
            go_wp2_with fail
            go_ret2
            exact ⟨v, rfl, fun _ => HO.out, e3.trans e6⟩
  · have HE := Lib.hid hE
    go_enter Tryz.func36, Tryz.ntmps36
    go_wp2_with (go_at_call 44; refine HC.out.mono ?_; rintro e w1 ⟨rfl, e1⟩)
    go_ret2
    exact ⟨_, rfl, fun h => absurd h HE.out, e1⟩
end Go.Proofs.YtfongpdeflfioaaGreat
