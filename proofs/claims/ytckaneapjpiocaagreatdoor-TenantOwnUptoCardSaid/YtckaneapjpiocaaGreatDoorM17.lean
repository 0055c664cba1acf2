/- The texts Rr6, Tr1, Rr7, Rr8 in one file. -/
import Derived.Test.YtckaneapjpiocaaGreatDoorM14
import Derived.Test.YtckaneapjpiocaaGreatDoorM16
import Derived.Test.YtckaneapjpiocaaGreatDoorM11
import Derived.Test.YtckaneapjpiocaaGreatDoorM2
namespace Go.Proofs.YtckaneapjpiocaaGreatDoor
open Go.RowKit Go.Maps Go.Sort Go.Shelf
set_option linter.unusedVariables false
set_option linter.unusedSimpArgs false
theorem Heap.bagJoin {w0 w : World} {its : List It} {S1 S2 : Nat → Prop} {L1 L2 : RdL} (H : Heap w0 (It.bag S1 L1 :: It.bag S2 L2 :: its) w) : Heap w0 (It.bag (fun k => S1 k ∨ S2 k) (L1 ++ L2) :: its) w := by
  have h1 := H.all 0 _ rfl
  have h2 := H.all 1 _ rfl
  refine ⟨H.ext, fun i x hx => ?_, fun i j x y k hij hx hy ho hat => ?_⟩
  · cases i with
    | zero =>
      cases hx
      refine ⟨fun k hk => hk.elim (h1.1 k) (h2.1 k), fun k hk => hk.elim (h1.2.1 k) (h2.2.1 k), fun q hq hn => ?_⟩
      rcases List.mem_append.1 hq with hq | hq
      · obtain ⟨b, o, e, q1, q2, q3⟩ := h1.2.2 q hq hn
        exact ⟨b, o, e, q1, .inl q2, q3⟩
      · obtain ⟨b, o, e, q1, q2, q3⟩ := h2.2.2 q hq hn
        exact ⟨b, o, e, q1, .inr q2, q3⟩
    | succ i => exact H.all (i + 2) x hx
  · cases i with
    | zero =>
      cases hx
      cases j with
      | zero => exact hij rfl
      | succ j =>
        rcases ho with ho | ho
        · exact H.apart 0 (j + 2) _ y k (by omega) rfl hy ho hat
        · exact H.apart 1 (j + 2) _ y k (by omega) rfl hy ho hat
    | succ i =>
      cases j with
      | zero =>
        cases hy
        rcases hat with hat | hat
        · exact H.apart (i + 2) 0 x _ k (by omega) hx rfl ho hat
        · exact H.apart (i + 2) 1 x _ k (by omega) hx rfl ho hat
      | succ j => exact H.apart (i + 2) (j + 2) x y k (fun e => hij (by omega)) hx hy ho hat
def rRep {α : Type} (f : List ByteArray → Option (α × List ByteArray)) : Nat → List ByteArray → Option (List α × List ByteArray)
  | 0, ts => some ([], ts)
  | n + 1, ts => (f ts).bind fun a => (rRep f n a.2).bind fun r => some (a.1 :: r.1, r.2)
theorem rRep_step {α β : Type} (f : List ByteArray → Option (α × List ByteArray)) (n : Nat) (ts : List ByteArray) (d : List α) (k : List α → List ByteArray → Option β) :
    ((rRep f (n + 1) ts).bind fun r => k (d ++ r.1) r.2) = (f ts).bind fun a => (rRep f n a.2).bind fun r => k ((d ++ [a.1]) ++ r.1) r.2 := by
  rw [rRep, Option.bind_assoc]
  congr 1
  funext a
  rw [Option.bind_assoc]
  congr 1
  funext r
  simp
def rEnd (ts : List ByteArray) : Option (Unit × List ByteArray) := if ts = [] then some ((), []) else none
theorem RS.leave {w0 w : World} {b : Nat} {its : List It} {L : RdL} {ts : List ByteArray} (h : RS w0 b its L ts w) : ∃ S L', (∀ q ∈ L, q ∈ L') ∧ Heap w0 (It.bag S L' :: its) w := by
  obtain ⟨A, c, S, L', h1, h2, h3, h4, h5, h6, H⟩ := h
  exact ⟨S, L', h1, H.tail⟩
def TopO (w0 : World) (its : List It) (l : List UInt8) (e : Ending) (w' : World) : Prop := if (rd l).1 = 0 then ∃ b, e = .returned (.pointer (some ⟨b, 0, none⟩)) ∧ RS w0 b its [] (rd l).2 w' else e = panE 21 ∧ Heap w0 its w'
set_option maxRecDepth 100000 in
set_option maxHeartbeats 4000000 in
theorem topen_any {w0 w : World} {its : List It} (H : Heap w0 its w) (key : ByteArray) (A : Option Addr) (n c : Nat) (l : List UInt8) (lv : Value) (hn : n = l.length) (hnc : n ≤ c) (hcm : c ≤ maxLen) (hr : Rd w 0 w.heap.size A (bytes l)) (hN : n ≤ 100000000) :
    Calls Tryz.prog 100 #[.agg #[.string key, .slice A n c, lv]] w (TopO w0 its l) := by
  have HH := Lib.hid H
  have HRd := Lib.hid (fun W (hW : Ext w W) => read_any W A n c l hn hnc (Rd.at hr hW (Nat.le_refl _)) (by omega) (by simp only [maxLen] at hcm; omega))
  have HS := Lib.hid (rd_small l)
  clear H hn hnc hcm hr hN
  go_enter Tryz.func100, Tryz.ntmps100
  go_upto_region 1 with fail
  generalize hwH : World.alloc w _ = w1
  have HE := Lib.hid (show Ext w w1 by rw [← hwH]; exact (Ext.refl w).alloc _)
  have HX := Lib.hid (HH.out.allocE hwH)
  clear hwH
  have HH := HX
  go_wp2_with (refine shl_load1 HH.out rfl rfl rfl 0 rfl rfl (by decide +kernel) ?_)
  refine (HRd.out _ HE.out).mono ?_
  rintro e w2 ⟨v, rfl, hown, e2⟩
  obtain ⟨A2, c2, rfl, _, _, _⟩ := own_form hown
  obtain ⟨q1, q2⟩ := own_form2 hown
  have HR0 := Lib.hid (HH.out.tail.later e2)
  have H2 := Lib.hid ((HH.out.tail.bag0).bagExt (j := 0) rfl e2 (L2 := [(A2, strV (rd l).2)]) (fun q hq => by
    obtain rfl := List.mem_singleton.1 hq
    exact Rd.of_own hown))
  clear hown e2 HRd HE HX HH
  by_cases hE : (rd l).1 = 0
  · have HO := Lib.hid (fun b w' (h : RS w0 b its [] (rd l).2 w') => show TopO w0 its l (.returned (.pointer (some ⟨b, 0, none⟩))) w' by rw [TopO, if_pos hE]; exact ⟨b, rfl, h⟩)
    rw [hE]
    clear hE
    generalize rd l = r at *
    go_wp2_with fail
    refine (wneed_true _ 21).mono ?_
    rintro e w3 ⟨rfl, rfl⟩
    go_wp2_with fail
    go_ret
    refine HO.out _ _ ?_
    obtain ⟨S, H3⟩ := H2.out
    exact ⟨A2, c2, S, _, (by intro q hq; cases hq), List.mem_append_left _ (List.mem_cons_self ..), q1, q2, HS.out.2, HS.out.1, H3.alloc _ _⟩
  · have HO := Lib.hid (fun w' (h : Heap w0 its w') => show TopO w0 its l (panE 21) w' by rw [TopO, if_neg hE]; exact ⟨rfl, h⟩)
    have hd : ((rd l).1 == 0) = false := by simpa using hE
    clear hE H2
    go_wp2_with fail
    refine (tneed_false _ 21).mono ?_
    rintro e w3 ⟨rfl, rfl⟩
    exact ⟨rfl, HO.out _ HR0.out⟩
open Go.RowKit Go.Maps Go.Sort Go.Shelf
set_option linter.unusedVariables false
set_option linter.unusedSimpArgs false
theorem tamount_any (w : World) (a b : Int) (h1 : -9223372036854775808 ≤ a) (h2 : a ≤ 9223372036854775807) :
    Calls Tryz.prog 80 #[.int .i64 a, .int .i64 b] w fun e w' => e = .returned (.bool (amtB a b)) ∧ Ext w w' := by
  unfold amtB
  go_enter Tryz.func80, Tryz.ntmps80
  go_wp2_with fail
  all_goals (go_ret; refine ⟨retB ?_, Ext.refl _⟩; (first | (simp [*]; done) | (simp [*]; omega)))
theorem toList_dec (a b : ByteArray) : (a.toList == b.toList) = decide (a = b) := by
  by_cases h : a = b
  · subst h; simp
  · rw [decide_eq_false h, beq_eq_false_iff_ne]
    intro e
    apply h
    rw [Lib.toList_data, Lib.toList_data] at e
    cases a; cases b
    congr 1
    exact Array.toList_inj.1 e
set_option maxHeartbeats 400000 in
theorem idxd_any (w : World) (A : Option Addr) (n c : Nat) (xs : List Dst) (hn : n = xs.length) (hm : n ≤ 9223372036854775807) (hr : Rd w 0 w.heap.size A (xs.flatMap Dst.cells)) (p : Dst → Bool) (F : Value) (f : FuncId) (caps : Array Value) (hf : F = .func (.func f) #[] caps) (hcf : ∀ args w, (callFunc f args).run Tryz.prog w = .ok (.enter f args) w)
    (hF : ∀ x ∈ xs, ∀ w1, Ext w w1 → Calls Tryz.prog f (#[.agg x.cells.toArray] ++ caps) w1 fun e w' => e = .returned (.bool (p x)) ∧ Ext w1 w') :
    Calls Tryz.prog 176 #[.slice A n c, F] w fun e w' => e = .returned (.int .i64 (findI p xs)) ∧ Ext w w' := by
  subst hf
  have Hn := Lib.hid hn
  have HF := Lib.hid hF
  have HAt := Lib.hid (findI_at p xs)
  have HNo := Lib.hid (findI_none p xs)
  generalize findI p xs = V at *
  clear hn hF
  go_enter Tryz.func176, Tryz.ntmps176
  go_wp2_with fail
  go_loopw [8] (fun i wr => ∃ k : Nat, k ≤ n ∧ i = .int .i64 k ∧ Hid (∀ x ∈ xs.take k, p x = false) ∧ Ext w wr) (fun i _ => n - (intOf i).toNat)
  case atStart => exact ⟨0, Nat.zero_le _, rfl, Lib.hid (by simp), Ext.refl _⟩
  case round =>
    obtain ⟨k, hk, rfl, HK, e1⟩ := hrel
    by_cases hlt : k < n
    · have hl : k < xs.length := by rw [← Hn.out]; omega
      obtain ⟨b1, o1, rfl, _, hb1, G0⟩ := rd_flat (size := 5) (fun _ => rfl) (by omega) hr hl
      have HC := Lib.hid (HF.out xs[k] (List.getElem_mem _) wr e1)
      have HY := Lib.hid (HAt.out k hl HK.out)
      have HT := Lib.hid (List.take_succ_eq_append_getElem hl)
      have G : ∀ j u, (Dst.cells xs[k])[j]? = some u → wr.cell? ⟨b1, o1 + k * 5 + j, none⟩ = some u := fun j u hu => by rw [Below.cell e1 hb1]; exact G0 j u hu
      generalize xs[k] = x at *
      have g0 := G 0 _ rfl; have g1 := G 1 _ rfl; have g2 := G 2 _ rfl; have g3 := G 3 _ rfl; have g4 := G 4 _ rfl
      simp only [Nat.add_zero, Nat.mul_one] at g0
      clear G G0
      go_wp2_with fail
      refine HC.out.mono ?_
      rintro e w2 ⟨rfl, e2⟩
      cases ho : p x
      · go_wp2_with fail
        go_roundw
        case rel =>
          refine ⟨k + 1, by omega, by go_num, Lib.hid (fun z hz => ?_), blo⟩
          rw [HT.out] at hz
          rcases List.mem_append.1 hz with hz | hz
          · exact HK.out z hz
          · simp only [List.mem_singleton] at hz; subst hz; exact ho
        case measure => simp [intOf]; omega
      · go_wp2_with fail
        go_ret
        exact ⟨by rw [HY.out ho]; rfl, blo⟩
    · obtain rfl : k = n := by omega
      have h1 := HK.out
      rw [List.take_of_length_le (by rw [← Hn.out]; exact Nat.le_refl _)] at h1
      have HZ := Lib.hid (HNo.out h1)
      clear h1
      go_wp2_with fail
      go_ret
      exact ⟨by rw [HZ.out]; rfl, e1⟩
set_option maxHeartbeats 400000 in
theorem idxs_any (w : World) (A : Option Addr) (n c : Nat) (xs : List Sna) (hn : n = xs.length) (hm : n ≤ 9223372036854775807) (hr : Rd w 0 w.heap.size A (xs.flatMap Sna.cells)) (p : Sna → Bool) (F : Value) (f : FuncId) (caps : Array Value) (hf : F = .func (.func f) #[] caps) (hcf : ∀ args w, (callFunc f args).run Tryz.prog w = .ok (.enter f args) w)
    (hF : ∀ x ∈ xs, ∀ w1, Ext w w1 → Calls Tryz.prog f (#[.agg x.cells.toArray] ++ caps) w1 fun e w' => e = .returned (.bool (p x)) ∧ Ext w1 w') :
    Calls Tryz.prog 214 #[.slice A n c, F] w fun e w' => e = .returned (.int .i64 (findI p xs)) ∧ Ext w w' := by
  subst hf
  have Hn := Lib.hid hn
  have HF := Lib.hid hF
  have HAt := Lib.hid (findI_at p xs)
  have HNo := Lib.hid (findI_none p xs)
  generalize findI p xs = V at *
  clear hn hF
  go_enter Tryz.func214, Tryz.ntmps214
  go_wp2_with fail
  go_loopw [8] (fun i wr => ∃ k : Nat, k ≤ n ∧ i = .int .i64 k ∧ Hid (∀ x ∈ xs.take k, p x = false) ∧ Ext w wr) (fun i _ => n - (intOf i).toNat)
  case atStart => exact ⟨0, Nat.zero_le _, rfl, Lib.hid (by simp), Ext.refl _⟩
  case round =>
    obtain ⟨k, hk, rfl, HK, e1⟩ := hrel
    by_cases hlt : k < n
    · have hl : k < xs.length := by rw [← Hn.out]; omega
      obtain ⟨b1, o1, rfl, _, hb1, G0⟩ := rd_flat (size := 5) (fun _ => rfl) (by omega) hr hl
      have HC := Lib.hid (HF.out xs[k] (List.getElem_mem _) wr e1)
      have HY := Lib.hid (HAt.out k hl HK.out)
      have HT := Lib.hid (List.take_succ_eq_append_getElem hl)
      have G : ∀ j u, (Sna.cells xs[k])[j]? = some u → wr.cell? ⟨b1, o1 + k * 5 + j, none⟩ = some u := fun j u hu => by rw [Below.cell e1 hb1]; exact G0 j u hu
      generalize xs[k] = x at *
      have g0 := G 0 _ rfl; have g1 := G 1 _ rfl; have g2 := G 2 _ rfl; have g3 := G 3 _ rfl; have g4 := G 4 _ rfl
      simp only [Nat.add_zero, Nat.mul_one] at g0
      clear G G0
      go_wp2_with fail
      refine HC.out.mono ?_
      rintro e w2 ⟨rfl, e2⟩
      cases ho : p x
      · go_wp2_with fail
        go_roundw
        case rel =>
          refine ⟨k + 1, by omega, by go_num, Lib.hid (fun z hz => ?_), blo⟩
          rw [HT.out] at hz
          rcases List.mem_append.1 hz with hz | hz
          · exact HK.out z hz
          · simp only [List.mem_singleton] at hz; subst hz; exact ho
        case measure => simp [intOf]; omega
      · go_wp2_with fail
        go_ret
        exact ⟨by rw [HY.out ho]; rfl, blo⟩
    · obtain rfl : k = n := by omega
      have h1 := HK.out
      rw [List.take_of_length_le (by rw [← Hn.out]; exact Nat.le_refl _)] at h1
      have HZ := Lib.hid (HNo.out h1)
      clear h1
      go_wp2_with fail
      go_ret
      exact ⟨by rw [HZ.out]; rfl, e1⟩
theorem sizeDst : (Tryz.prog.info? 52).map (·.size) = some 5 := by kernel_rfl
theorem sizeTnt : (Tryz.prog.info? 27).map (·.size) = some 7 := by kernel_rfl
theorem sizeSna : (Tryz.prog.info? 137).map (·.size) = some 5 := by kernel_rfl
set_option maxRecDepth 100000 in
theorem find1_any (w : World) (b : Nat) (s : ByteArray) (x : Dst) (hb : w.cell? ⟨b, 0, none⟩ = some (.string s)) :
    Calls Tryz.prog 177 #[.agg x.cells.toArray, .pointer (some ⟨b, 0, none⟩)] w fun e w' => e = .returned (.bool (decide (x.path = s))) ∧ Ext w w' := by
  have HE := Lib.hid (toList_dec x.path s)
  have HB := Lib.hid (World.block_lt_of_cell? w _ hb)
  obtain ⟨x1, x2, x3, x4, x5⟩ := x
  dsimp only at HE ⊢
  generalize decide (_ = s) = V at *
  simp only [Dst.cells]
  go_enter Tryz.func177, Tryz.ntmps177
  go_upto_region 1 with fail
  generalize hwH : World.alloc w _ = w1; have HH := Lib.hid (Heap.one hwH); clear hwH
  have g0 := (HH.out.boxAt 0 rfl).cell 0 _ rfl
  have c0 := (Below.cell HH.out.ext HB.out).trans hb
  have HEx := Lib.hid HH.out.ext
  have he := HE.out
  cases V with
  | false =>
    go_wp2_with fail
    go_ret
    exact ⟨rfl, HEx.out⟩
  | true =>
    go_wp2_with fail
    go_ret
    exact ⟨rfl, HEx.out⟩
set_option maxRecDepth 100000 in
theorem snap1_any (w : World) (b : Nat) (s : ByteArray) (x : Sna) (hb : w.cell? ⟨b, 0, none⟩ = some (.string s)) :
    Calls Tryz.prog 215 #[.agg x.cells.toArray, .pointer (some ⟨b, 0, none⟩)] w fun e w' => e = .returned (.bool (decide (x.name = s))) ∧ Ext w w' := by
  have HE := Lib.hid (toList_dec x.name s)
  have HB := Lib.hid (World.block_lt_of_cell? w _ hb)
  obtain ⟨x1, x2, x3, x4, x5⟩ := x
  dsimp only at HE ⊢
  generalize decide (_ = s) = V at *
  simp only [Sna.cells]
  go_enter Tryz.func215, Tryz.ntmps215
  go_upto_region 1 with fail
  generalize hwH : World.alloc w _ = w1; have HH := Lib.hid (Heap.one hwH); clear hwH
  have g0 := (HH.out.boxAt 0 rfl).cell 0 _ rfl
  have c0 := (Below.cell HH.out.ext HB.out).trans hb
  have HEx := Lib.hid HH.out.ext
  have he := HE.out
  cases V with
  | false =>
    go_wp2_with fail
    go_ret
    exact ⟨rfl, HEx.out⟩
  | true =>
    go_wp2_with fail
    go_ret
    exact ⟨rfl, HEx.out⟩
theorem call_find1 : ∀ args w, (callFunc 177 args).run Tryz.prog w = .ok (.enter 177 args) w := callF Tryz.func177 (by kernel_rfl) rfl
theorem call_snap1 : ∀ args w, (callFunc 215 args).run Tryz.prog w = .ok (.enter 215 args) w := callF Tryz.func215 (by kernel_rfl) rfl
set_option maxRecDepth 100000 in
theorem find_any (w : World) (t : Tnt) (s : ByteArray) (h : Sl.At w 0 w.heap.size Dst.cells (Dst.At w 0 w.heap.size) t.sets) :
    Calls Tryz.prog 136 #[.agg t.cells.toArray, .string s] w fun e w' => e = .returned (.int .i64 (atS t.sets.xs s)) ∧ Ext w w' := by
  have HI := Lib.hid (fun W (hW : Ext w W) b (hb : W.cell? ⟨b, 0, none⟩ = some (.string s)) => idxd_any W t.sets.A t.sets.n t.sets.c t.sets.xs h.len (Nat.le_trans (Nat.le_trans h.le h.cap) (by decide)) (Rd.at h.rd hW (Nat.le_refl _)) (fun x => decide (x.path = s)) _ 177 #[.pointer (some ⟨b, 0, none⟩)] rfl call_find1
    (fun x hx w1 e1 => find1_any w1 b s x ((Below.cell e1 (World.block_lt_of_cell? W _ hb)).trans hb)))
  clear h
  obtain ⟨t1, t2, t3, ⟨A, n, c, xs⟩, t5, t6, t7⟩ := t
  unfold atS
  simp only [Tnt.cells, Sl.val] at *
  go_enter Tryz.func136, Tryz.ntmps136
  go_upto_region 1 with fail
  generalize hwH : World.alloc (World.alloc w _) _ = w1; have HH := Lib.hid (Heap.two hwH); clear hwH
  have g3 := (HH.out.boxAt 1 rfl).cell 3 _ rfl
  go_wp2_with fail
  refine (HI.out _ HH.out.ext _ ((HH.out.boxAt 0 rfl).cell 0 _ rfl)).mono ?_
  rintro e w2 ⟨rfl, e2⟩
  have HE := Lib.hid (HH.out.ext.trans e2)
  go_wp2_with fail
  go_ret
  exact ⟨rfl, HE.out⟩
set_option maxRecDepth 100000 in
theorem snap_any (w : World) (t : Dst) (s : ByteArray) (h : Sl.At w 0 w.heap.size Sna.cells (Sna.At w 0 w.heap.size) t.snaps) :
    Calls Tryz.prog 184 #[.agg t.cells.toArray, .string s] w fun e w' => e = .returned (.int .i64 (findI (fun x : Sna => decide (x.name = s)) t.snaps.xs)) ∧ Ext w w' := by
  have HI := Lib.hid (fun W (hW : Ext w W) b (hb : W.cell? ⟨b, 0, none⟩ = some (.string s)) => idxs_any W t.snaps.A t.snaps.n t.snaps.c t.snaps.xs h.len (Nat.le_trans (Nat.le_trans h.le h.cap) (by decide)) (Rd.at h.rd hW (Nat.le_refl _)) (fun x => decide (x.name = s)) _ 215 #[.pointer (some ⟨b, 0, none⟩)] rfl call_snap1
    (fun x hx w1 e1 => snap1_any w1 b s x ((Below.cell e1 (World.block_lt_of_cell? W _ hb)).trans hb)))
  clear h
  obtain ⟨t1, t2, t3, ⟨A, n, c, xs⟩, t5⟩ := t
  simp only [Dst.cells, Sl.val] at *
  go_enter Tryz.func184, Tryz.ntmps184
  go_upto_region 1 with fail
  generalize hwH : World.alloc (World.alloc w _) _ = w1; have HH := Lib.hid (Heap.two hwH); clear hwH
  have g3 := (HH.out.boxAt 1 rfl).cell 3 _ rfl
  go_wp2_with fail
  refine (HI.out _ HH.out.ext _ ((HH.out.boxAt 0 rfl).cell 0 _ rfl)).mono ?_
  rintro e w2 ⟨rfl, e2⟩
  have HE := Lib.hid (HH.out.ext.trans e2)
  go_wp2_with fail
  go_ret
  exact ⟨rfl, HE.out⟩
open Go.RowKit Go.Maps Go.Sort Go.Shelf
set_option linter.unusedVariables false
set_option linter.unusedSimpArgs false
theorem infoSna : (Tryz.prog.info? 137).map (fun i => (i.zero, i.size, i.bytes)) = some (some (.agg #[.string .empty, .int .i64 0, .slice none 0 0, .slice none 0 0, .slice none 0 0]), 5, 96) := by kernel_rfl
def Dst.bare (x : Dst) : Dst := { x with body := slB x.body.xs, snaps := slB (x.snaps.xs.map Sna.bare), own := slB x.own.xs }
structure DstIn (L : RdL) (x : Dst) : Prop where
  body : InL L Blk.cells x.body
  snaps : InL L Sna.cells x.snaps
  own : InL L Prp.cells x.own
  all : ∀ y ∈ x.snaps.xs, SnaIn L y
theorem DstIn.sub {L L2 : RdL} {x : Dst} (h : DstIn L x) (hs : ∀ q ∈ L, q ∈ L2) : DstIn L2 x := ⟨h.body.sub hs, h.snaps.sub hs, h.own.sub hs, fun y hy => (h.all y hy).sub hs⟩
structure Dst.fit (x : Dst) : Prop where
  path : sml x.path
  origin : sml x.origin
  body : ∀ y ∈ x.body.xs, Blk.sm y
  bodyS : x.body.xs.length ≤ 1048576
  own : ∀ y ∈ x.own.xs, Prp.sm y
  ownS : x.own.xs.length ≤ 1048576
  snaps : ∀ y ∈ x.snaps.xs, Sna.fit y
  snapsS : x.snaps.xs.length ≤ 1048576
def rDst (path : ByteArray) (ts : List ByteArray) : Option Dst :=
  (rTx ts).bind fun o => (rOwn o.2).bind fun p => (rBody p.2).bind fun d => (rNm 16 d.2).bind fun n => (rRep rSna n.1.toNat n.2).bind fun r => (rEnd r.2).bind fun _ => some ⟨path, o.1, slB d.1, slB r.1, slB p.1⟩
def rSet (path : ByteArray) (l : List UInt8) : Option Dst := if (rd l).1 = 0 then rDst path (rd l).2 else none
def DstO (w0 : World) (its : List It) (r : Option Dst) (e : Ending) (w' : World) : Prop := match r with
  | none => e = panE 21 ∧ Heap w0 its w'
  | some px => ∃ (x : Dst) (S : Nat → Prop) (L2 : RdL), e = .returned (.agg x.cells.toArray) ∧ x.bare = px ∧ DstIn L2 x ∧ x.fit ∧ Heap w0 (It.bag S L2 :: its) w'
set_option maxRecDepth 100000 in
set_option maxHeartbeats 8000000 in
theorem tr_set {w0 w : World} {its : List It} (H : Heap w0 its w) (path : ByteArray) (hp : sml path) (key : ByteArray) (A : Option Addr) (n c : Nat) (l : List UInt8) (lA : Option Addr) (ln lc : Nat) (hn : n = l.length) (hnc : n ≤ c) (hcm : c ≤ maxLen) (hr : Rd w 0 w.heap.size A (bytes l)) (hN : n ≤ 100000000) :
    Calls Tryz.prog 49 #[.string path, .agg #[.string key, .slice A n c, .slice lA ln lc]] w (DstO w0 its (rSet path l)) := by
  obtain ⟨i0, hi0, hz0, hz1, hz2⟩ := info_parts infoSna
  have HH := Lib.hid H
  have HPt := Lib.hid hp
  have HOp := Lib.hid (fun W i9 (hW : Ext w W) (h : Heap w0 i9 W) => topen_any h key A n c l (.slice lA ln lc) hn hnc hcm (Rd.at hr hW (Nat.le_refl _)) hN)
  have HV := Lib.hid (show rSet path l = if (rd l).1 = 0 then rDst path (rd l).2 else none from rfl)
  generalize rSet path l = V at *
  clear H hp hn hnc hcm hr hN
  go_enter Tryz.func49, Tryz.ntmps49
  go_upto_region 1 with fail
  generalize hwH : World.alloc (World.alloc w _) _ = w1
  have HE := Lib.hid (show Ext w w1 by rw [← hwH]; exact ((Ext.refl w).alloc _).alloc _)
  replace HH := Lib.hid ((HH.out.alloc _ _).allocE hwH)
  clear hwH
  simp only [World.size_alloc] at HH
  obtain ⟨ob, hob⟩ : ∃ b, b = w.heap.size := ⟨_, rfl⟩
  obtain ⟨rb, hrb⟩ : ∃ b, b = w.heap.size + 1 := ⟨_, rfl⟩
  rw [← hrb, ← hob] at HH ⊢
  clear hrb hob
  go_wp2_with (refine shl_load HH.out sizeObj (by kernel_rfl) rfl rfl rfl 1 rfl rfl ?_)
  refine (HOp.out _ _ HE.out HH.out).mono ?_
  intro e w2 h
  clear HE HOp
  by_cases hE : (rd l).1 = 0
  · rw [TopO, if_pos hE] at h
    obtain ⟨b, rfl, h⟩ := h
    have hV := HV.out
    rw [if_pos hE, rDst] at hV
    replace HV := Lib.hid hV
    replace HH := Lib.hid h
    clear hV h hE
    generalize (rd l).2 = ts at *
    go_wp2_with fail
    refine rd_call HV (ro_text HH.out) (fun w' h1 h2 => by subst h1; exact ⟨rfl, rfl, h2.tail.tail⟩) ?_
    rintro og us e w3 HV ⟨g0, rfl, h⟩
    replace HH := Lib.hid h
    clear h
    go_wp2_with fail
    refine rd_call HV (ro_own HH.out) (fun w' h1 h2 => by subst h1; exact ⟨rfl, rfl, h2.tail.tail⟩) ?_
    rintro ow us e w4 HV ⟨o0, oA, oc, rfl, p1, p2, h⟩
    replace HH := Lib.hid h
    have HP := Lib.hid (And.intro o0 (And.intro p1 p2))
    clear h o0 p1 p2
    go_wp2_with fail
    refine rd_call HV (ro_body HH.out) (fun w' h1 h2 => by subst h1; exact ⟨rfl, rfl, h2.tail.tail⟩) ?_
    rintro bd us e w5 HV ⟨b9, bA, bc, rfl, q1, q2, h⟩
    obtain ⟨A2, c2, S2, L2, _, _, H, hB⟩ := h.open
    replace HH := Lib.hid H
    have HB := Lib.hid hB
    have HQ := Lib.hid (And.intro b9 (And.intro q1 q2))
    clear h H hB b9 q1 q2
    dsimp only at HV
    go_upto_region 3 with (refine shl_store (HH.out.alloc _ _) sizeDst rfl rfl rfl rfl 0 rfl rfl rfl rfl ?_; clear HH; intro wS HHS; have HH := Lib.hid HHS; clear HHS)
    obtain ⟨xb, hxb⟩ : ∃ b, b = w5.heap.size := ⟨_, rfl⟩
    rw [← hxb] at HH ⊢
    clear hxb
    replace HH := Lib.hid ((HB.out _ _ HH.out.in2).push (x := .row 137 5 (.slice none 0 0) 0 []) fun l h => h.row0)
    clear HB
    go_wp2_with fail
    refine rd_call HV (ro_num HH.out 16) (fun w' h1 h2 => by subst h1; exact ⟨rfl, rfl, h2.tail.tail.tail.tail⟩) ?_
    rintro kv us e w6 HV ⟨k0, k4, rfl, h⟩
    replace HH := Lib.hid h
    clear h
    dsimp only at HV
    obtain ⟨K, rfl⟩ : ∃ K : Nat, kv = (K : Int) := ⟨kv.toNat, by omega⟩
    clear k0
    rw [Int.toNat_natCast] at HV
    obtain ⟨L0, hL0⟩ : ∃ L0, L0 = (bA, blks bd) :: (oA, prps ow) :: ([] : RdL) := ⟨_, rfl⟩
    rw [← hL0] at HH
    have HL0 := Lib.hid hL0
    clear hL0
    go_wp2_with fail
    go_loopw [19] (fun i wr => ∃ (xs : List Sna) (us : List ByteArray) (L2 : RdL), xs.length ≤ K ∧ i = .int .i64 (xs.length : Int) ∧ ∃ sA sc, Hid (V = (rRep rSna (K - xs.length) us).bind fun r => (rEnd r.2).bind fun _ => some ⟨path, og, slB bd, slB (xs.map Sna.bare ++ r.1), slB ow⟩) ∧ Hid (∀ y ∈ xs, SnaIn L2 y ∧ y.fit) ∧ Hid (∀ q ∈ L0, q ∈ L2) ∧
      Hid (RS w0 b (.row 137 5 (.slice sA xs.length sc) xs.length (xs.flatMap Sna.cells) :: .box xb [.string path, .string og, .slice bA bd.length bc, .slice sA xs.length sc, .slice oA ow.length oc] :: .box rb [.string ⟨#[]⟩, .string ⟨#[]⟩, .slice none 0 0, .slice none 0 0, .slice none 0 0] :: .box ob [.string key, .slice A n c, .slice lA ln lc] :: its) L2 us wr)) (fun i _ => K - (intOf i).toNat)
    case atStart => exact ⟨[], us, L0, Nat.zero_le _, rfl, none, 0, HV, Lib.hid (fun y h => by cases h), Lib.hid (fun q h => h), HH⟩
    case round =>
      clear HH HV
      obtain ⟨xs, us, L2, hk, rfl, A2, c2, HV, HX, HL, HR⟩ := hrel
      by_cases hlt : xs.length < K
      · have hkk : (xs.length : Int) < (K : Int) := by omega
        have hV := HV.out
        rw [show K - xs.length = (K - xs.length - 1) + 1 by omega, rRep_step rSna (K - xs.length - 1) us (xs.map Sna.bare) (fun d ts => (rEnd ts).bind fun _ => some (⟨path, og, slB bd, slB d, slB ow⟩ : Dst))] at hV
        replace HV := Lib.hid hV
        clear hV
        go_upto_region 5 with fail
        replace HR := Lib.hid (HR.out.later (Ext.drew (Ext.refl _)))
        obtain ⟨A3, c3, S3, L3, _, _, H, _⟩ := HR.out.open
        have HH := Lib.hid H
        clear H
        refine rgnM (fun z => Nat.blt z 6) (S := fun W => W.cell? ⟨xb, 3, none⟩ = some (.slice A2 xs.length c2)) (by kernel_rfl) ((HH.out.boxAt 3 rfl).cell 3 _ rfl) (fun hHeld => ?_)
        generalize World.drew _ = wd at *
        refine tM 0 3 ?_
        clear hHeld HH
        refine oneM 3 rfl (by kernel_rfl) (by kernel_rfl) (fun K hK => ?_)
        go_simp
        refine rd_call HV (tr_snap HR.out) (fun w' h1 h2 => by subst h1; exact ⟨rfl, rfl, h2.tail.tail.tail.tail⟩) ?_
        rintro px us2 e w7 HV ⟨x, L4, rfl, rfl, hin, hL, hf, h⟩
        obtain ⟨A3, c3, S3, L3, _, _, H, hB⟩ := h.open
        have HH := Lib.hid H
        have HB := Lib.hid hB
        replace HX := Lib.hid (show ∀ y ∈ xs ++ [x], SnaIn L4 y ∧ y.fit from fun y hy => by
          rcases List.mem_append.1 hy with hy | hy
          · exact ⟨(HX.out y hy).1.sub hL, (HX.out y hy).2⟩
          · obtain rfl := List.mem_singleton.1 hy
            exact ⟨hin, hf⟩)
        replace HL := Lib.hid (fun q hq => hL q (HL.out q hq))
        have HC := Lib.hid (show (xs ++ [x]).flatMap Sna.cells = xs.flatMap Sna.cells ++ x.cells by simp)
        have HLn := Lib.hid (show (xs ++ [x]).length = xs.length + 1 by simp)
        have HMp := Lib.hid (show xs.map Sna.bare ++ [x.bare] = (xs ++ [x]).map Sna.bare by simp)
        have hcl : x.cells.length = 5 := rfl
        rw [HMp.out] at HV
        generalize xs ++ [x] = ys at *
        clear h H hB hin hf hL HMp HR
        obtain ⟨xn, xg, ⟨xbA, xbn, xbc, xbs⟩, ⟨xtA, xtn, xtc, xts⟩, ⟨xoA, xon, xoc, xos⟩⟩ := x
        simp only [Sna.cells, Sl.val] at HC ⊢
        go_wp2_with fail
        refine hK.out _ _ ((HH.out.boxAt 3 rfl).cell 3 _ rfl) (fun hHeld => ?_)
        clear hK K hHeld
        (try simp only [Act.put, lyA, lyB, lyC])
        refine oneM 4 rfl (by kernel_rfl) (by kernel_rfl) (fun K hK => ?_)
        go_simp
        generalize hwA : World.alloc _ _ = w8
        replace HH := Lib.hid (HH.out.allocE hwA)
        clear hwA
        refine hK.out _ _ ((HH.out.boxAt 4 rfl).cell 3 _ rfl) (fun hHeld => ?_)
        clear hK K hHeld
        (try simp only [Act.put, lyA, lyB, lyC])
        refine freeM 5 rfl (by kernel_rfl) (by kernel_rfl) (by kernel_rfl) (fun K hK => ?_)
        refine sh_app (.tmp 22) (.tmp 25) _ rfl Tryz.underlying50 hi0 hz0 hz1 hz2 rfl (by omega) HH.out 3 rfl rfl (m := 1) rfl rfl (HH.out.boxRd 0 rfl).m0 (by simp [Value.oneCell']) (by simp only [maxLen]; omega) (by omega) ?_
        rintro v8 w9 hh8 ⟨A8, c8, rfl⟩
        replace HH := Lib.hid hh8.tail
        clear hh8
        refine hK.out _ _ ?_; clear hK K; (try simp only [Act.put, lyA, lyB, lyC])
        refine pureM 6 (v := ?_) rfl (by kernel_rfl) (by kernel_rfl) (by kernel_rfl) (by kernel_rfl) (fun _ _ _ h => h) (by kernel_rfl) ?_ (fun h => absurd h (no_more (by kernel_rfl))) ?_; rotate_left; (focus (intro w; go_simp <;> with_reducible rfl)); (try simp only [Act.put, lyA, lyB, lyC])
        refine freeM 7 rfl (by kernel_rfl) (by kernel_rfl) (by kernel_rfl) (fun K hK => ?_)
        refine sh_store1 HH.out rfl rfl rfl 3 rfl (Nat.le_of_ble_eq_true rfl) rfl (by kernel_rfl) ?_
        intro w10 hh9
        refine hK.out _ _ ?_; clear hK K; (try simp only [Act.put, lyA, lyB, lyC])
        refine doneM (by kernel_rfl) ?_
        have H9 := Lib.hid (HB.out _ _ hh9)
        clear hh9 HB HH
        go_wp2_with fail
        go_roundw
        case rel => exact ⟨ys, us2, L4, by rw [HLn.out]; omega, by rw [HLn.out]; go_num, A8, c8, Lib.hid (by rw [show K - ys.length = K - xs.length - 1 by rw [HLn.out]; omega]; exact HV.out), HX, HL, Lib.hid (by rw [HLn.out, HC.out]; exact H9.out)⟩
        case measure => simp [intOf]; omega
      · have hkK : xs.length = K := by omega
        have hV := HV.out
        rw [show K - xs.length = 0 by omega, rRep, Option.bind_some] at hV
        replace HV := Lib.hid hV
        clear hV
        simp only [List.append_nil] at HV
        go_wp2_with fail
        refine rd_call HV (ro_done HR.out) (fun w' h1 h2 => by subst h1; exact ⟨rfl, rfl, h2.tail.tail.tail.tail⟩) ?_
        rintro _ us2 e w7 HV ⟨rfl, h⟩
        have hV := HV.out
        subst hV
        obtain ⟨A3, c3, S3, L3, _, hL3, H, hB⟩ := h.open
        have HH := Lib.hid H
        have HB := Lib.hid hB
        clear H hB h HR
        go_wp2_with (first | (refine shl_load HH.out sizeDst (by kernel_rfl) rfl rfl rfl 3 rfl rfl ?_) | (refine shl_store HH.out sizeDst rfl rfl rfl rfl 4 rfl rfl rfl rfl ?_; clear HH; intro wS HHS; have HH := Lib.hid HHS; clear HHS))
        refine ret_cell sizeDst (by kernel_rfl) HH.out rfl rfl 4 rfl rfl rfl ?_
        obtain ⟨r1, r2⟩ := own_form2 (HH.out.rowAt 2 rfl)
        obtain ⟨S9, L9, hL9, H9⟩ := ((HB.out _ _ HH.out).bagRow).drop.drop.drop.leave
        have hLs := HL0.out
        have hq := HQ.out
        have hp := HP.out
        obtain ⟨o1, o2⟩ := pr_small _ hp.1
        obtain ⟨d1, d2⟩ := bk_small _ hq.1.1
        have hs0 : ∀ q ∈ L0, q ∈ L9 := fun q hq => hL9 q (List.mem_cons_of_mem _ (HL.out q hq))
        refine ⟨⟨path, og, ⟨bA, bd.length, bc, bd⟩, ⟨A2, xs.length, c2, xs⟩, ⟨oA, ow.length, oc, ow⟩⟩, S9, L9, rfl, rfl, ⟨⟨rfl, hq.2.1, hq.2.2, hs0 _ (by rw [hLs]; simp [blks])⟩, ⟨rfl, r1, r2, hL9 _ (List.mem_cons_self ..)⟩, ⟨rfl, hp.2.1, hp.2.2, hs0 _ (by rw [hLs]; simp [prps])⟩, fun y hy => (HX.out y hy).1.sub fun q hq => hL9 q (List.mem_cons_of_mem _ hq)⟩, ⟨HPt.out, Nat.le_trans g0 (by decide), fun y hy => hq.1.2 y hy, Nat.le_trans d1 (by decide), fun y hy => ?_, Nat.le_trans o1 (by decide), fun y hy => (HX.out y hy).2, by show xs.length ≤ _; omega⟩, H9⟩
        have := o2 y hy
        exact ⟨Nat.le_trans this.1 (by decide), Nat.le_trans this.2 (by decide)⟩
  · rw [TopO, if_neg hE] at h
    obtain ⟨rfl, h⟩ := h
    have hV := HV.out
    rw [if_neg hE] at hV
    subst hV
    exact ⟨rfl, rfl, h.tail.tail⟩
open Go.RowKit Go.Maps Go.Sort Go.Shelf
set_option linter.unusedVariables false
set_option linter.unusedSimpArgs false
theorem infoGra : (Tryz.prog.info? 116).map (fun i => (i.zero, i.size, i.bytes)) = some (some (.agg #[.string .empty, .string .empty, .int .i64 0]), 3, 40) := by kernel_rfl
theorem infoLin : (Tryz.prog.info? 81).map (fun i => (i.zero, i.size, i.bytes)) = some (some (.agg #[.string .empty, .int .i64 0, .string .empty, .int .i64 0]), 4, 48) := by kernel_rfl
def rGra (ts : List ByteArray) : Option (Gra × List ByteArray) := (rTx ts).bind fun u => (rTx u.2).bind fun p => (rAm p.2).bind fun m => some (⟨u.1, p.1, m.1⟩, m.2)
def rLin (ts : List ByteArray) : Option (Lin × List ByteArray) := (rTx ts).bind fun u => (rAm u.2).bind fun k => (rTx k.2).bind fun p => (rAm p.2).bind fun e => some (⟨u.1, k.1, p.1, e.1⟩, e.2)
def rHd (name : ByteArray) (ts : List ByteArray) : Option Tnt :=
  (rAm ts).bind fun q => (rAm q.2).bind fun nx => (rNm 16 nx.2).bind fun n => (rRep rGra n.1.toNat n.2).bind fun g => (rNm 16 g.2).bind fun m => (rRep rLin m.1.toNat m.2).bind fun l => (rEnd l.2).bind fun _ => some ⟨name, q.1, nx.1, slB [], slB g.1, slB [], slB l.1⟩
def rHead (name : ByteArray) (l : List UInt8) : Option Tnt := if (rd l).1 = 0 then rHd name (rd l).2 else none
structure HdIn (L : RdL) (px t : Tnt) : Prop where
  name : t.name = px.name
  quota : t.quota = px.quota
  next : t.next = px.next
  sets : t.sets = slB []
  grants : t.grants.xs = px.grants.xs
  stages : t.stages = slB []
  log : t.log.xs = px.log.xs
  psets : px.sets = slB []
  pstages : px.stages = slB []
  pgrants : px.grants = slB px.grants.xs
  plog : px.log = slB px.log.xs
  grantsL : InL L Gra.cells t.grants
  logL : InL L Lin.cells t.log
  grantsF : ∀ y ∈ t.grants.xs, Gra.sm y
  logF : ∀ y ∈ t.log.xs, Lin.sm y
  quotaF : (Lit.int .i64 t.quota).wf = true
  nextF : (Lit.int .i64 t.next).wf = true
  gn : t.grants.xs.length ≤ 16
  ln : t.log.xs.length ≤ 16
def HdO (w0 : World) (its : List It) (r : Option Tnt) (e : Ending) (w' : World) : Prop := match r with
  | none => e = panE 21 ∧ Heap w0 its w'
  | some px => ∃ (t : Tnt) (S : Nat → Prop) (L2 : RdL), e = .returned (.agg t.cells.toArray) ∧ HdIn L2 px t ∧ Heap w0 (It.bag S L2 :: its) w'
set_option maxRecDepth 100000 in
set_option maxHeartbeats 8000000 in
theorem tr_head {w0 w : World} {its : List It} (H : Heap w0 its w) (name : ByteArray) (key : ByteArray) (A : Option Addr) (n c : Nat) (l : List UInt8) (lA : Option Addr) (ln lc : Nat) (hn : n = l.length) (hnc : n ≤ c) (hcm : c ≤ maxLen) (hr : Rd w 0 w.heap.size A (bytes l)) (hN : n ≤ 100000000) :
    Calls Tryz.prog 47 #[.string name, .agg #[.string key, .slice A n c, .slice lA ln lc]] w (HdO w0 its (rHead name l)) := by
  obtain ⟨i0, hi0, hz0, hz1, hz2⟩ := info_parts infoGra
  obtain ⟨i1, hi1, hx0, hx1, hx2⟩ := info_parts infoLin
  have HH := Lib.hid H
  have HOp := Lib.hid (fun W i9 (hW : Ext w W) (h : Heap w0 i9 W) => topen_any h key A n c l (.slice lA ln lc) hn hnc hcm (Rd.at hr hW (Nat.le_refl _)) hN)
  have HV := Lib.hid (show rHead name l = if (rd l).1 = 0 then rHd name (rd l).2 else none from rfl)
  generalize rHead name l = V at *
  clear H hn hnc hcm hr hN
  go_enter Tryz.func47, Tryz.ntmps47
  go_upto_region 1 with fail
  generalize hwH : World.alloc (World.alloc w _) _ = w1
  have HE := Lib.hid (show Ext w w1 by rw [← hwH]; exact ((Ext.refl w).alloc _).alloc _)
  replace HH := Lib.hid ((HH.out.alloc _ _).allocE hwH)
  clear hwH
  simp only [World.size_alloc] at HH
  obtain ⟨ob, hob⟩ : ∃ b, b = w.heap.size := ⟨_, rfl⟩
  obtain ⟨rb, hrb⟩ : ∃ b, b = w.heap.size + 1 := ⟨_, rfl⟩
  rw [← hrb, ← hob] at HH ⊢
  clear hrb hob
  go_wp2_with (refine shl_load HH.out sizeObj (by kernel_rfl) rfl rfl rfl 1 rfl rfl ?_)
  refine (HOp.out _ _ HE.out HH.out).mono ?_
  intro e w2 h
  clear HE HOp
  by_cases hE : (rd l).1 = 0
  · rw [TopO, if_pos hE] at h
    obtain ⟨b, rfl, h⟩ := h
    have hV := HV.out
    rw [if_pos hE, rHd] at hV
    replace HV := Lib.hid hV
    replace HH := Lib.hid h
    clear hV h hE
    generalize (rd l).2 = ts at *
    go_wp2_with fail
    refine rd_call HV (ro_amt HH.out) (fun w' h1 h2 => by subst h1; exact ⟨rfl, rfl, h2.tail.tail⟩) ?_
    rintro qu us e w3 HV ⟨a0, a1, rfl, h⟩
    replace HH := Lib.hid h
    clear h
    go_wp2_with fail
    refine rd_call HV (ro_amt HH.out) (fun w' h1 h2 => by subst h1; exact ⟨rfl, rfl, h2.tail.tail⟩) ?_
    rintro nx us e w4 HV ⟨b0, b1, rfl, h⟩
    replace HH := Lib.hid h
    clear h
    obtain ⟨A2, c2, S2, L2, _, _, H, hB⟩ := HH.out.open
    replace HH := Lib.hid H
    have HB := Lib.hid hB
    clear H hB
    dsimp only at HV
    go_upto_region 3 with (refine shl_store (HH.out.alloc _ _) sizeTnt rfl rfl rfl rfl 0 rfl rfl rfl rfl ?_; clear HH; intro wS HHS; have HH := Lib.hid HHS; clear HHS)
    obtain ⟨xb, hxb⟩ : ∃ b, b = w4.heap.size := ⟨_, rfl⟩
    rw [← hxb] at HH ⊢
    clear hxb
    replace HH := Lib.hid ((HB.out _ _ HH.out.in2).push (x := .row 116 3 (.slice none 0 0) 0 []) fun l h => h.row0)
    clear HB
    go_wp2_with fail
    refine rd_call HV (ro_num HH.out 16) (fun w' h1 h2 => by subst h1; exact ⟨rfl, rfl, h2.tail.tail.tail.tail⟩) ?_
    rintro kv us e w6 HV ⟨k0, k4, rfl, h⟩
    replace HH := Lib.hid h
    clear h
    dsimp only at HV
    obtain ⟨K, rfl⟩ : ∃ K : Nat, kv = (K : Int) := ⟨kv.toNat, by omega⟩
    clear k0
    rw [Int.toNat_natCast] at HV
    go_wp2_with fail
    go_loopw [17] (fun i wr => ∃ (xs : List Gra) (us : List ByteArray), xs.length ≤ K ∧ i = .int .i64 (xs.length : Int) ∧ ∃ sA sc, Hid (V = (rRep rGra (K - xs.length) us).bind fun r => (rNm 16 (r.2)).bind fun m => (rRep rLin m.1.toNat m.2).bind fun l => (rEnd l.2).bind fun _ => some (⟨name, qu, nx, slB [], slB (xs ++ r.1), slB [], slB l.1⟩ : Tnt)) ∧ Hid (∀ y ∈ xs, Gra.sm y) ∧
      Hid (RS w0 b (.row 116 3 (.slice sA xs.length sc) xs.length (xs.flatMap Gra.cells) :: .box xb [.string name, .int .i64 qu, .int .i64 nx, .slice none 0 0, .slice sA xs.length sc, .slice none 0 0, .slice none 0 0] :: .box rb [.string ⟨#[]⟩, .int .i64 0, .int .i64 0, .slice none 0 0, .slice none 0 0, .slice none 0 0, .slice none 0 0] :: .box ob [.string key, .slice A n c, .slice lA ln lc] :: its) ([] : RdL) us wr)) (fun i _ => K - (intOf i).toNat)
    case atStart => exact ⟨[], us, Nat.zero_le _, rfl, none, 0, HV, Lib.hid (fun y h => by cases h), HH⟩
    case round =>
      clear HH HV
      obtain ⟨xs, us, hk, rfl, A2, c2, HV, HX, HH⟩ := hrel
      by_cases hlt : xs.length < K
      · have hkk : (xs.length : Int) < (K : Int) := by omega
        have hV := HV.out
        rw [show K - xs.length = (K - xs.length - 1) + 1 by omega, rRep_step rGra (K - xs.length - 1) us xs (fun (d : List Gra) ts => (rNm 16 (ts)).bind fun m => (rRep rLin m.1.toNat m.2).bind fun l => (rEnd l.2).bind fun _ => some (⟨name, qu, nx, slB [], slB (d), slB [], slB l.1⟩ : Tnt))] at hV
        simp only [rGra, Option.bind_assoc, Option.bind_some] at hV
        replace HV := Lib.hid hV
        clear hV
        go_upto_region 5 with fail
        replace HH := Lib.hid (HH.out.later (Ext.drew (Ext.refl _)))
        obtain ⟨A3, c3, S3, L3, _, _, H, _⟩ := HH.out.open
        refine rgnM (fun z => Nat.blt z 11) (S := fun W => W.cell? ⟨xb, 4, none⟩ = some (.slice A2 xs.length c2)) (by kernel_rfl) ((H.boxAt 3 rfl).cell 4 _ rfl) (fun hHeld => ?_)
        generalize World.drew _ = wd at *
        clear H
        refine tM 0 3 ?_
        refine tM 4 1 ?_
        refine tM 6 1 ?_
        clear hHeld
        refine oneM 3 rfl (by kernel_rfl) (by kernel_rfl) (fun K hK => ?_)
        go_simp
        refine rd_call HV (ro_text HH.out) (fun w' h1 h2 => by subst h1; exact ⟨rfl, rfl, h2.tail.tail.tail.tail⟩) ?_
        rintro u us e wa HV ⟨u0, rfl, h⟩
        replace HH := Lib.hid h
        clear h
        dsimp only at HV
        obtain ⟨A3, c3, S3, L3, _, _, H, hB⟩ := HH.out.open
        go_wp2_with fail
        refine hK.out _ _ ((H.boxAt 3 rfl).cell 4 _ rfl) (fun hHeld => ?_)
        clear hK K
        (try simp only [Act.put, lyA, lyB, lyC])
        clear H hB hHeld
        refine oneM 5 rfl (by kernel_rfl) (by kernel_rfl) (fun K hK => ?_)
        go_simp
        refine rd_call HV (ro_text HH.out) (fun w' h1 h2 => by subst h1; exact ⟨rfl, rfl, h2.tail.tail.tail.tail⟩) ?_
        rintro p us e wb HV ⟨p0, rfl, h⟩
        replace HH := Lib.hid h
        clear h
        dsimp only at HV
        obtain ⟨A3, c3, S3, L3, _, _, H, hB⟩ := HH.out.open
        go_wp2_with fail
        refine hK.out _ _ ((H.boxAt 3 rfl).cell 4 _ rfl) (fun hHeld => ?_)
        clear hK K
        (try simp only [Act.put, lyA, lyB, lyC])
        clear H hB hHeld
        refine oneM 7 rfl (by kernel_rfl) (by kernel_rfl) (fun K hK => ?_)
        go_simp
        refine rd_call HV (ro_amt HH.out) (fun w' h1 h2 => by subst h1; exact ⟨rfl, rfl, h2.tail.tail.tail.tail⟩) ?_
        rintro m us e wc_ HV ⟨m0, m1, rfl, h⟩
        replace HH := Lib.hid h
        clear h
        dsimp only at HV
        obtain ⟨A3, c3, S3, L3, _, _, H, hB⟩ := HH.out.open
        go_wp2_with fail
        refine hK.out _ _ ((H.boxAt 3 rfl).cell 4 _ rfl) (fun hHeld => ?_)
        clear hK K
        (try simp only [Act.put, lyA, lyB, lyC])
        refine tM 8 1 ?_
        clear hHeld
        replace HH := Lib.hid H
        have HB := Lib.hid hB
        clear H hB
        have HC := Lib.hid (show (xs ++ [(⟨u, p, m⟩ : Gra)]).flatMap Gra.cells = xs.flatMap Gra.cells ++ [.string u, .string p, .int .i64 m] by simp [Gra.cells])
        have HLn := Lib.hid (show (xs ++ [(⟨u, p, m⟩ : Gra)]).length = xs.length + 1 by simp)
        replace HX := Lib.hid (show ∀ y ∈ xs ++ [(⟨u, p, m⟩ : Gra)], Gra.sm y from fun y hy => by
          rcases List.mem_append.1 hy with hy | hy
          · exact HX.out y hy
          · obtain rfl := List.mem_singleton.1 hy
            exact ⟨Nat.le_trans u0 (by decide), Nat.le_trans p0 (by decide), wf_int m0 (Int.le_trans m1 (by decide))⟩)
        generalize xs ++ [(⟨u, p, m⟩ : Gra)] = ys at *
        refine oneM 9 rfl (by kernel_rfl) (by kernel_rfl) (fun K hK => ?_)
        go_simp
        generalize hwA : World.alloc _ _ = w8
        replace HH := Lib.hid (HH.out.allocE hwA)
        clear hwA
        refine hK.out _ _ ((HH.out.boxAt 4 rfl).cell 4 _ rfl) (fun hHeld => ?_)
        clear hK K hHeld
        (try simp only [Act.put, lyA, lyB, lyC])
        refine freeM 10 rfl (by kernel_rfl) (by kernel_rfl) (by kernel_rfl) (fun K hK => ?_)
        refine sh_app (.tmp 20) (.tmp 28) _ rfl Tryz.underlying23 hi0 hz0 hz1 hz2 rfl (by omega) HH.out 3 rfl rfl (m := 1) rfl rfl (HH.out.boxRd 0 rfl).m0 (by simp [Value.oneCell']) (by simp only [maxLen]; omega) (by omega) ?_
        rintro v8 w9 hh8 ⟨A8, c8, rfl⟩
        replace HH := Lib.hid hh8.tail
        clear hh8
        refine hK.out _ _ ?_; clear hK K; (try simp only [Act.put, lyA, lyB, lyC])
        refine pureM 11 (v := ?_) rfl (by kernel_rfl) (by kernel_rfl) (by kernel_rfl) (by kernel_rfl) (fun _ _ _ h => h) (by kernel_rfl) ?_ (fun h => absurd h (no_more (by kernel_rfl))) ?_; rotate_left; (focus (intro w; go_simp <;> with_reducible rfl)); (try simp only [Act.put, lyA, lyB, lyC])
        refine freeM 12 rfl (by kernel_rfl) (by kernel_rfl) (by kernel_rfl) (fun K hK => ?_)
        refine sh_store1 HH.out rfl rfl rfl 3 rfl (Nat.le_of_ble_eq_true rfl) rfl (by kernel_rfl) ?_
        intro w10 hh9
        refine hK.out _ _ ?_; clear hK K; (try simp only [Act.put, lyA, lyB, lyC])
        refine doneM (by kernel_rfl) ?_
        have H9 := Lib.hid (HB.out _ _ hh9)
        clear hh9 HB HH
        go_wp2_with fail
        go_roundw
        case rel => exact ⟨ys, us, by rw [HLn.out]; omega, by rw [HLn.out]; go_num, A8, c8, Lib.hid (by rw [show K - ys.length = K - xs.length - 1 by rw [HLn.out]; omega]; exact HV.out), HX, Lib.hid (by rw [HLn.out, HC.out]; exact H9.out)⟩
        case measure => simp [intOf]; omega
      · have hkK : xs.length = K := by omega
        have hV := HV.out
        rw [show K - xs.length = 0 by omega, rRep, Option.bind_some] at hV
        replace HV := Lib.hid hV
        clear hV
        simp only [List.append_nil] at HV
        obtain ⟨gA, gc, hg⟩ : ∃ gA gc, gA = A2 ∧ gc = c2 := ⟨_, _, rfl, rfl⟩
        obtain ⟨rfl, rfl⟩ := hg
        obtain ⟨A3, c3, S3, L3, _, _, H, _⟩ := HH.out.open
        obtain ⟨r1, r2⟩ := own_form2 (H.rowAt 2 rfl)
        clear H
        have HG := Lib.hid (And.intro r1 r2)
        clear r1 r2
        replace HH := Lib.hid ((HH.out.bagRow).push (x := .row 81 4 (.slice none 0 0) 0 []) fun l h => h.row0)
        have HGx := HX
        clear HX
        obtain ⟨L1, hL1⟩ : ∃ L1, L1 = [(gA, xs.flatMap Gra.cells)] := ⟨_, rfl⟩
        rw [← hL1] at HH
        have HL1 := Lib.hid hL1
        clear hL1
        have hg16 : xs.length ≤ 16 := by omega
        generalize xs = gs at *
        go_wp2_with fail
        refine rd_call HV (ro_num HH.out 16) (fun w' h1 h2 => by subst h1; exact ⟨rfl, rfl, h2.tail.tail.tail.tail⟩) ?_
        rintro kv us e w7 HV ⟨k0, k5, rfl, h⟩
        replace HH := Lib.hid h
        clear h
        dsimp only at HV
        obtain ⟨K2, rfl⟩ : ∃ K2 : Nat, kv = (K2 : Int) := ⟨kv.toNat, by omega⟩
        clear k0
        rw [Int.toNat_natCast] at HV
        go_wp2_with fail
        go_loopw [34] (fun i wr => ∃ (xs : List Lin) (us : List ByteArray), xs.length ≤ K2 ∧ i = .int .i64 (xs.length : Int) ∧ ∃ sA sc, Hid (V = (rRep rLin (K2 - xs.length) us).bind fun r => (rEnd (r.2)).bind fun _ => some (⟨name, qu, nx, slB [], slB gs, slB [], slB (xs ++ r.1)⟩ : Tnt)) ∧ Hid (∀ y ∈ xs, Lin.sm y) ∧
          Hid (RS w0 b (.row 81 4 (.slice sA xs.length sc) xs.length (xs.flatMap Lin.cells) :: .box xb [.string name, .int .i64 qu, .int .i64 nx, .slice none 0 0, .slice gA gs.length gc, .slice none 0 0, .slice sA xs.length sc] :: .box rb [.string ⟨#[]⟩, .int .i64 0, .int .i64 0, .slice none 0 0, .slice none 0 0, .slice none 0 0, .slice none 0 0] :: .box ob [.string key, .slice A n c, .slice lA ln lc] :: its) L1 us wr)) (fun i _ => K2 - (intOf i).toNat)
        case atStart => exact ⟨[], us, Nat.zero_le _, rfl, none, 0, HV, Lib.hid (fun y h => by cases h), HH⟩
        case round =>
          clear HH HV
          obtain ⟨xs, us, hk, rfl, A2, c2, HV, HX, HH⟩ := hrel
          by_cases hlt : xs.length < K2
          · have hkk : (xs.length : Int) < (K2 : Int) := by omega
            have hV := HV.out
            rw [show K2 - xs.length = (K2 - xs.length - 1) + 1 by omega, rRep_step rLin (K2 - xs.length - 1) us xs (fun (d : List Lin) ts => (rEnd (ts)).bind fun _ => some (⟨name, qu, nx, slB [], slB gs, slB [], slB (d)⟩ : Tnt))] at hV
            simp only [rLin, Option.bind_assoc, Option.bind_some] at hV
            replace HV := Lib.hid hV
            clear hV
            go_upto_region 9 with fail
            replace HH := Lib.hid (HH.out.later (Ext.drew (Ext.refl _)))
            obtain ⟨A3, c3, S3, L3, _, _, H, _⟩ := HH.out.open
            refine rgnM (fun z => Nat.blt z 13) (S := fun W => W.cell? ⟨xb, 6, none⟩ = some (.slice A2 xs.length c2)) (by kernel_rfl) ((H.boxAt 3 rfl).cell 6 _ rfl) (fun hHeld => ?_)
            generalize World.drew _ = wd at *
            clear H
            refine tM 0 3 ?_
            refine tM 4 1 ?_
            refine tM 6 1 ?_
            refine tM 8 1 ?_
            clear hHeld
            refine oneM 3 rfl (by kernel_rfl) (by kernel_rfl) (fun K hK => ?_)
            go_simp
            refine rd_call HV (ro_text HH.out) (fun w' h1 h2 => by subst h1; exact ⟨rfl, rfl, h2.tail.tail.tail.tail⟩) ?_
            rintro u us e wa HV ⟨u0, rfl, h⟩
            replace HH := Lib.hid h
            clear h
            dsimp only at HV
            obtain ⟨A3, c3, S3, L3, _, _, H, hB⟩ := HH.out.open
            go_wp2_with fail
            refine hK.out _ _ ((H.boxAt 3 rfl).cell 6 _ rfl) (fun hHeld => ?_)
            clear hK K
            (try simp only [Act.put, lyA, lyB, lyC])
            clear H hB hHeld
            refine oneM 5 rfl (by kernel_rfl) (by kernel_rfl) (fun K hK => ?_)
            go_simp
            refine rd_call HV (ro_amt HH.out) (fun w' h1 h2 => by subst h1; exact ⟨rfl, rfl, h2.tail.tail.tail.tail⟩) ?_
            rintro kd us e wb HV ⟨m0, m1, rfl, h⟩
            replace HH := Lib.hid h
            clear h
            dsimp only at HV
            obtain ⟨A3, c3, S3, L3, _, _, H, hB⟩ := HH.out.open
            go_wp2_with fail
            refine hK.out _ _ ((H.boxAt 3 rfl).cell 6 _ rfl) (fun hHeld => ?_)
            clear hK K
            (try simp only [Act.put, lyA, lyB, lyC])
            clear H hB hHeld
            refine oneM 7 rfl (by kernel_rfl) (by kernel_rfl) (fun K hK => ?_)
            go_simp
            refine rd_call HV (ro_text HH.out) (fun w' h1 h2 => by subst h1; exact ⟨rfl, rfl, h2.tail.tail.tail.tail⟩) ?_
            rintro p us e wc_ HV ⟨p0, rfl, h⟩
            replace HH := Lib.hid h
            clear h
            dsimp only at HV
            obtain ⟨A3, c3, S3, L3, _, _, H, hB⟩ := HH.out.open
            go_wp2_with fail
            refine hK.out _ _ ((H.boxAt 3 rfl).cell 6 _ rfl) (fun hHeld => ?_)
            clear hK K
            (try simp only [Act.put, lyA, lyB, lyC])
            clear H hB hHeld
            refine oneM 9 rfl (by kernel_rfl) (by kernel_rfl) (fun K hK => ?_)
            go_simp
            refine rd_call HV (ro_amt HH.out) (fun w' h1 h2 => by subst h1; exact ⟨rfl, rfl, h2.tail.tail.tail.tail⟩) ?_
            rintro er us e wd_ HV ⟨m2, m3, rfl, h⟩
            replace HH := Lib.hid h
            clear h
            dsimp only at HV
            obtain ⟨A3, c3, S3, L3, _, _, H, hB⟩ := HH.out.open
            go_wp2_with fail
            refine hK.out _ _ ((H.boxAt 3 rfl).cell 6 _ rfl) (fun hHeld => ?_)
            clear hK K
            (try simp only [Act.put, lyA, lyB, lyC])
            refine tM 10 1 ?_
            clear hHeld
            replace HH := Lib.hid H
            have HB := Lib.hid hB
            clear H hB
            have HC := Lib.hid (show (xs ++ [(⟨u, kd, p, er⟩ : Lin)]).flatMap Lin.cells = xs.flatMap Lin.cells ++ [.string u, .int .i64 kd, .string p, .int .i64 er] by simp [Lin.cells])
            have HLn := Lib.hid (show (xs ++ [(⟨u, kd, p, er⟩ : Lin)]).length = xs.length + 1 by simp)
            replace HX := Lib.hid (show ∀ y ∈ xs ++ [(⟨u, kd, p, er⟩ : Lin)], Lin.sm y from fun y hy => by
              rcases List.mem_append.1 hy with hy | hy
              · exact HX.out y hy
              · obtain rfl := List.mem_singleton.1 hy
                exact ⟨Nat.le_trans u0 (by decide), Nat.le_trans p0 (by decide), wf_int m0 (Int.le_trans m1 (by decide)), wf_int m2 (Int.le_trans m3 (by decide))⟩)
            generalize xs ++ [(⟨u, kd, p, er⟩ : Lin)] = ys at *
            refine oneM 11 rfl (by kernel_rfl) (by kernel_rfl) (fun K hK => ?_)
            go_simp
            generalize hwA : World.alloc _ _ = w8
            replace HH := Lib.hid (HH.out.allocE hwA)
            clear hwA
            refine hK.out _ _ ((HH.out.boxAt 4 rfl).cell 6 _ rfl) (fun hHeld => ?_)
            clear hK K hHeld
            (try simp only [Act.put, lyA, lyB, lyC])
            refine freeM 12 rfl (by kernel_rfl) (by kernel_rfl) (by kernel_rfl) (fun K hK => ?_)
            refine sh_app (.tmp 37) (.tmp 47) _ rfl Tryz.underlying25 hi1 hx0 hx1 hx2 rfl (by omega) HH.out 3 rfl rfl (m := 1) rfl rfl (HH.out.boxRd 0 rfl).m0 (by simp [Value.oneCell']) (by simp only [maxLen]; omega) (by omega) ?_
            rintro v8 w9 hh8 ⟨A8, c8, rfl⟩
            replace HH := Lib.hid hh8.tail
            clear hh8
            refine hK.out _ _ ?_; clear hK K; (try simp only [Act.put, lyA, lyB, lyC])
            refine pureM 13 (v := ?_) rfl (by kernel_rfl) (by kernel_rfl) (by kernel_rfl) (by kernel_rfl) (fun _ _ _ h => h) (by kernel_rfl) ?_ (fun h => absurd h (no_more (by kernel_rfl))) ?_; rotate_left; (focus (intro w; go_simp <;> with_reducible rfl)); (try simp only [Act.put, lyA, lyB, lyC])
            refine freeM 14 rfl (by kernel_rfl) (by kernel_rfl) (by kernel_rfl) (fun K hK => ?_)
            refine sh_store1 HH.out rfl rfl rfl 3 rfl (Nat.le_of_ble_eq_true rfl) rfl (by kernel_rfl) ?_
            intro w10 hh9
            refine hK.out _ _ ?_; clear hK K; (try simp only [Act.put, lyA, lyB, lyC])
            refine doneM (by kernel_rfl) ?_
            have H9 := Lib.hid (HB.out _ _ hh9)
            clear hh9 HB HH
            go_wp2_with fail
            go_roundw
            case rel => exact ⟨ys, us, by rw [HLn.out]; omega, by rw [HLn.out]; go_num, A8, c8, Lib.hid (by rw [show K2 - ys.length = K2 - xs.length - 1 by rw [HLn.out]; omega]; exact HV.out), HX, Lib.hid (by rw [HLn.out, HC.out]; exact H9.out)⟩
            case measure => simp [intOf]; omega
          · have hkK : xs.length = K2 := by omega
            have hV := HV.out
            rw [show K2 - xs.length = 0 by omega, rRep, Option.bind_some] at hV
            replace HV := Lib.hid hV
            clear hV
            simp only [List.append_nil] at HV
            go_wp2_with fail
            refine rd_call HV (ro_done HH.out) (fun w' h1 h2 => by subst h1; exact ⟨rfl, rfl, h2.tail.tail.tail.tail⟩) ?_
            rintro _ us2 e w7 HV ⟨rfl, h⟩
            have hV := HV.out
            subst hV
            obtain ⟨A3, c3, S3, L3, _, hL3, H, hB⟩ := h.open
            replace HH := Lib.hid H
            have HB := Lib.hid hB
            clear H hB h
            go_wp2_with (first | (refine shl_load HH.out sizeTnt (by kernel_rfl) rfl rfl rfl 3 rfl rfl ?_) | (refine shl_store HH.out sizeTnt rfl rfl rfl rfl 4 rfl rfl rfl rfl ?_; clear HH; intro wS HHS; have HH := Lib.hid HHS; clear HHS))
            refine ret_cell sizeTnt (by kernel_rfl) HH.out rfl rfl 4 rfl rfl rfl ?_
            obtain ⟨r1, r2⟩ := own_form2 (HH.out.rowAt 2 rfl)
            obtain ⟨S9, L9, hL9, H9⟩ := ((HB.out _ _ HH.out).bagRow).drop.drop.drop.leave
            exact ⟨⟨name, qu, nx, slB [], ⟨gA, gs.length, gc, gs⟩, slB [], ⟨A2, xs.length, c2, xs⟩⟩, S9, L9, rfl, ⟨rfl, rfl, rfl, rfl, rfl, rfl, rfl, rfl, rfl, rfl, rfl, ⟨rfl, HG.out.1, HG.out.2, hL9 _ (List.mem_cons_of_mem _ (by rw [HL1.out]; exact List.mem_cons_self ..))⟩, ⟨rfl, r1, r2, hL9 _ (List.mem_cons_self ..)⟩, HGx.out, HX.out, wf_int a0 (Int.le_trans a1 (by decide)), wf_int b0 (Int.le_trans b1 (by decide)), hg16, by show xs.length ≤ 16; omega⟩, H9⟩
  · rw [TopO, if_neg hE] at h
    obtain ⟨rfl, h⟩ := h
    have hV := HV.out
    rw [if_neg hE] at hV
    subst hV
    exact ⟨rfl, rfl, h.tail.tail⟩
end Go.Proofs.YtckaneapjpiocaaGreatDoor
