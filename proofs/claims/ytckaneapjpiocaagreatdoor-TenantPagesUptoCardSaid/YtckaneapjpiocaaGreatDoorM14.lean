/- The texts Tr1, Rpth, Tr2 in one file. -/
import Derived.Test.YtckaneapjpiocaaGreatDoorM12
import Derived.Test.YtckaneapjpiocaaGreatDoorM10
/- tree.amount, Find, Snap, names.Parent, Split. -/
namespace Go.Proofs.YtckaneapjpiocaaGreatDoor
open Go.RowKit Go.Maps Go.Sort Go.Shelf
set_option linter.unusedVariables false
set_option linter.unusedSimpArgs false

theorem tamount_any (w : World) (a b : Int) (h1 : -9223372036854775808 ≤ a) (h2 : a ≤ 9223372036854775807) :
    Calls Tryz.prog 80 #[.int .i64 a, .int .i64 b] w fun e w' => e = .returned (.bool (amtB a b)) ∧ Ext w w' := by
  unfold amtB
  go_enter Tryz.func80, Tryz.ntmps80
  go_wp2_with fail
  all_goals (go_ret; refine ⟨retB ?_, Ext.refl _⟩; (first | (simp [*]; done) | (simp [*]; omega)))
theorem toList_dec (a b : ByteArray) : (a.toList == b.toList) = decide (a = b) := by
  by_cases h : a = b
  · subst h; simp
  · rw [decide_eq_false h, beq_eq_false_iff_ne]
    intro e
    apply h
    rw [Lib.toList_data, Lib.toList_data] at e
    cases a; cases b
    congr 1
    exact Array.toList_inj.1 e
set_option maxHeartbeats 400000 in
theorem idxd_any (w : World) (A : Option Addr) (n c : Nat) (xs : List Dst) (hn : n = xs.length) (hm : n ≤ 9223372036854775807) (hr : Rd w 0 w.heap.size A (xs.flatMap Dst.cells)) (p : Dst → Bool) (F : Value) (f : FuncId) (caps : Array Value) (hf : F = .func (.func f) #[] caps) (hcf : ∀ args w, (callFunc f args).run Tryz.prog w = .ok (.enter f args) w)
    (hF : ∀ x ∈ xs, ∀ w1, Ext w w1 → Calls Tryz.prog f (#[.agg x.cells.toArray] ++ caps) w1 fun e w' => e = .returned (.bool (p x)) ∧ Ext w1 w') :
    Calls Tryz.prog 176 #[.slice A n c, F] w fun e w' => e = .returned (.int .i64 (findI p xs)) ∧ Ext w w' := by
  subst hf
  have Hn := Lib.hid hn
  have HF := Lib.hid hF
  have HAt := Lib.hid (findI_at p xs)
  have HNo := Lib.hid (findI_none p xs)
  generalize findI p xs = V at *
  clear hn hF
  go_enter Tryz.func176, Tryz.ntmps176
  go_wp2_with fail
  go_loopw [8] (fun i wr => ∃ k : Nat, k ≤ n ∧ i = .int .i64 k ∧ Hid (∀ x ∈ xs.take k, p x = false) ∧ Ext w wr) (fun i _ => n - (intOf i).toNat)
  case atStart => exact ⟨0, Nat.zero_le _, rfl, Lib.hid (by simp), Ext.refl _⟩
  case round =>
    obtain ⟨k, hk, rfl, HK, e1⟩ := hrel
    by_cases hlt : k < n
    · have hl : k < xs.length := by rw [← Hn.out]; omega
      obtain ⟨b1, o1, rfl, _, hb1, G0⟩ := rd_flat (size := 5) (fun _ => rfl) (by omega) hr hl
      have HC := Lib.hid (HF.out xs[k] (List.getElem_mem _) wr e1)
      have HY := Lib.hid (HAt.out k hl HK.out)
      have HT := Lib.hid (List.take_succ_eq_append_getElem hl)
      have G : ∀ j u, (Dst.cells xs[k])[j]? = some u → wr.cell? ⟨b1, o1 + k * 5 + j, none⟩ = some u := fun j u hu => by rw [Below.cell e1 hb1]; exact G0 j u hu
      generalize xs[k] = x at *
      have g0 := G 0 _ rfl; have g1 := G 1 _ rfl; have g2 := G 2 _ rfl; have g3 := G 3 _ rfl; have g4 := G 4 _ rfl
      simp only [Nat.add_zero, Nat.mul_one] at g0
      clear G G0
      go_wp2_with fail
      refine HC.out.mono ?_
      rintro e w2 ⟨rfl, e2⟩
      cases ho : p x
      · go_wp2_with fail
        go_roundw
        case rel =>
          refine ⟨k + 1, by omega, by go_num, Lib.hid (fun z hz => ?_), by (repeat (first | exact Below.refl _ _ | exact Ext.refl _ | assumption | refine Below.drew ?_ | refine below_drewN ?_ _ | refine below_alloc ?_ (by first | exact Nat.le_refl _ | assumption | (simp; done) | omega | (simp; omega)) _ | refine below_ext ?_ (by assumption) (by first | exact Nat.le_refl _ | assumption | (simp; done) | omega | (simp; omega)) | refine Ext.drew ?_ | refine Ext.drewN ?_ _ | refine Ext.alloc ?_ _ | refine Ext.setCell ?_ (by first | assumption | (simp; done) | (simp; omega)) _ | refine Below.setCell ?_ (by first | assumption | (simp; done) | (simp; omega)) _ | refine Ext.trans ?_ (by assumption)))⟩
          rw [HT.out] at hz
          rcases List.mem_append.1 hz with hz | hz
          · exact HK.out z hz
          · simp only [List.mem_singleton] at hz; subst hz; exact ho
        case measure => simp [intOf]; omega
      · go_wp2_with fail
        go_ret
        exact ⟨by rw [HY.out ho]; rfl, by (repeat (first | exact Below.refl _ _ | exact Ext.refl _ | assumption | refine Below.drew ?_ | refine below_drewN ?_ _ | refine below_alloc ?_ (by first | exact Nat.le_refl _ | assumption | (simp; done) | omega | (simp; omega)) _ | refine below_ext ?_ (by assumption) (by first | exact Nat.le_refl _ | assumption | (simp; done) | omega | (simp; omega)) | refine Ext.drew ?_ | refine Ext.drewN ?_ _ | refine Ext.alloc ?_ _ | refine Ext.setCell ?_ (by first | assumption | (simp; done) | (simp; omega)) _ | refine Below.setCell ?_ (by first | assumption | (simp; done) | (simp; omega)) _ | refine Ext.trans ?_ (by assumption)))⟩
    · obtain rfl : k = n := by omega
      have h1 := HK.out
      rw [List.take_of_length_le (by rw [← Hn.out]; exact Nat.le_refl _)] at h1
      have HZ := Lib.hid (HNo.out h1)
      clear h1
      go_wp2_with fail
      go_ret
      exact ⟨by rw [HZ.out]; rfl, e1⟩
set_option maxHeartbeats 400000 in
theorem idxs_any (w : World) (A : Option Addr) (n c : Nat) (xs : List Sna) (hn : n = xs.length) (hm : n ≤ 9223372036854775807) (hr : Rd w 0 w.heap.size A (xs.flatMap Sna.cells)) (p : Sna → Bool) (F : Value) (f : FuncId) (caps : Array Value) (hf : F = .func (.func f) #[] caps) (hcf : ∀ args w, (callFunc f args).run Tryz.prog w = .ok (.enter f args) w)
    (hF : ∀ x ∈ xs, ∀ w1, Ext w w1 → Calls Tryz.prog f (#[.agg x.cells.toArray] ++ caps) w1 fun e w' => e = .returned (.bool (p x)) ∧ Ext w1 w') :
    Calls Tryz.prog 214 #[.slice A n c, F] w fun e w' => e = .returned (.int .i64 (findI p xs)) ∧ Ext w w' := by
  subst hf
  have Hn := Lib.hid hn
  have HF := Lib.hid hF
  have HAt := Lib.hid (findI_at p xs)
  have HNo := Lib.hid (findI_none p xs)
  generalize findI p xs = V at *
  clear hn hF
  go_enter Tryz.func214, Tryz.ntmps214
  go_wp2_with fail
  go_loopw [8] (fun i wr => ∃ k : Nat, k ≤ n ∧ i = .int .i64 k ∧ Hid (∀ x ∈ xs.take k, p x = false) ∧ Ext w wr) (fun i _ => n - (intOf i).toNat)
  case atStart => exact ⟨0, Nat.zero_le _, rfl, Lib.hid (by simp), Ext.refl _⟩
  case round =>
    obtain ⟨k, hk, rfl, HK, e1⟩ := hrel
    by_cases hlt : k < n
    · have hl : k < xs.length := by rw [← Hn.out]; omega
      obtain ⟨b1, o1, rfl, _, hb1, G0⟩ := rd_flat (size := 5) (fun _ => rfl) (by omega) hr hl
      have HC := Lib.hid (HF.out xs[k] (List.getElem_mem _) wr e1)
      have HY := Lib.hid (HAt.out k hl HK.out)
      have HT := Lib.hid (List.take_succ_eq_append_getElem hl)
      have G : ∀ j u, (Sna.cells xs[k])[j]? = some u → wr.cell? ⟨b1, o1 + k * 5 + j, none⟩ = some u := fun j u hu => by rw [Below.cell e1 hb1]; exact G0 j u hu
      generalize xs[k] = x at *
      have g0 := G 0 _ rfl; have g1 := G 1 _ rfl; have g2 := G 2 _ rfl; have g3 := G 3 _ rfl; have g4 := G 4 _ rfl
      simp only [Nat.add_zero, Nat.mul_one] at g0
      clear G G0
      go_wp2_with fail
      refine HC.out.mono ?_
      rintro e w2 ⟨rfl, e2⟩
      cases ho : p x
      · go_wp2_with fail
        go_roundw
        case rel =>
          refine ⟨k + 1, by omega, by go_num, Lib.hid (fun z hz => ?_), by (repeat (first | exact Below.refl _ _ | exact Ext.refl _ | assumption | refine Below.drew ?_ | refine below_drewN ?_ _ | refine below_alloc ?_ (by first | exact Nat.le_refl _ | assumption | (simp; done) | omega | (simp; omega)) _ | refine below_ext ?_ (by assumption) (by first | exact Nat.le_refl _ | assumption | (simp; done) | omega | (simp; omega)) | refine Ext.drew ?_ | refine Ext.drewN ?_ _ | refine Ext.alloc ?_ _ | refine Ext.setCell ?_ (by first | assumption | (simp; done) | (simp; omega)) _ | refine Below.setCell ?_ (by first | assumption | (simp; done) | (simp; omega)) _ | refine Ext.trans ?_ (by assumption)))⟩
          rw [HT.out] at hz
          rcases List.mem_append.1 hz with hz | hz
          · exact HK.out z hz
          · simp only [List.mem_singleton] at hz; subst hz; exact ho
        case measure => simp [intOf]; omega
      · go_wp2_with fail
        go_ret
        exact ⟨by rw [HY.out ho]; rfl, by (repeat (first | exact Below.refl _ _ | exact Ext.refl _ | assumption | refine Below.drew ?_ | refine below_drewN ?_ _ | refine below_alloc ?_ (by first | exact Nat.le_refl _ | assumption | (simp; done) | omega | (simp; omega)) _ | refine below_ext ?_ (by assumption) (by first | exact Nat.le_refl _ | assumption | (simp; done) | omega | (simp; omega)) | refine Ext.drew ?_ | refine Ext.drewN ?_ _ | refine Ext.alloc ?_ _ | refine Ext.setCell ?_ (by first | assumption | (simp; done) | (simp; omega)) _ | refine Below.setCell ?_ (by first | assumption | (simp; done) | (simp; omega)) _ | refine Ext.trans ?_ (by assumption)))⟩
    · obtain rfl : k = n := by omega
      have h1 := HK.out
      rw [List.take_of_length_le (by rw [← Hn.out]; exact Nat.le_refl _)] at h1
      have HZ := Lib.hid (HNo.out h1)
      clear h1
      go_wp2_with fail
      go_ret
      exact ⟨by rw [HZ.out]; rfl, e1⟩
theorem sizeDst : (Tryz.prog.info? 52).map (·.size) = some 5 := by kernel_rfl
theorem sizeTnt : (Tryz.prog.info? 27).map (·.size) = some 7 := by kernel_rfl
theorem sizeSna : (Tryz.prog.info? 137).map (·.size) = some 5 := by kernel_rfl
set_option maxRecDepth 100000 in
theorem find1_any (w : World) (b : Nat) (s : ByteArray) (x : Dst) (hb : w.cell? ⟨b, 0, none⟩ = some (.string s)) :
    Calls Tryz.prog 177 #[.agg x.cells.toArray, .pointer (some ⟨b, 0, none⟩)] w fun e w' => e = .returned (.bool (decide (x.path = s))) ∧ Ext w w' := by
  have HE := Lib.hid (toList_dec x.path s)
  have HB := Lib.hid (World.block_lt_of_cell? w _ hb)
  obtain ⟨x1, x2, x3, x4, x5⟩ := x
  dsimp only at HE ⊢
  generalize decide (_ = s) = V at *
  simp only [Dst.cells]
  go_enter Tryz.func177, Tryz.ntmps177
  go_upto_region 1 with fail
  generalize hwH : World.alloc w _ = w1; have HH := Lib.hid (Heap.one hwH); clear hwH
  have g0 := (HH.out.boxAt 0 rfl).cell 0 _ rfl
  have c0 := (Below.cell HH.out.ext HB.out).trans hb
  have HEx := Lib.hid HH.out.ext
  have he := HE.out
  cases V with
  | false =>
    go_wp2_with fail
    go_ret
    exact ⟨rfl, HEx.out⟩
  | true =>
    go_wp2_with fail
    go_ret
    exact ⟨rfl, HEx.out⟩
set_option maxRecDepth 100000 in
theorem snap1_any (w : World) (b : Nat) (s : ByteArray) (x : Sna) (hb : w.cell? ⟨b, 0, none⟩ = some (.string s)) :
    Calls Tryz.prog 215 #[.agg x.cells.toArray, .pointer (some ⟨b, 0, none⟩)] w fun e w' => e = .returned (.bool (decide (x.name = s))) ∧ Ext w w' := by
  have HE := Lib.hid (toList_dec x.name s)
  have HB := Lib.hid (World.block_lt_of_cell? w _ hb)
  obtain ⟨x1, x2, x3, x4, x5⟩ := x
  dsimp only at HE ⊢
  generalize decide (_ = s) = V at *
  simp only [Sna.cells]
  go_enter Tryz.func215, Tryz.ntmps215
  go_upto_region 1 with fail
  generalize hwH : World.alloc w _ = w1; have HH := Lib.hid (Heap.one hwH); clear hwH
  have g0 := (HH.out.boxAt 0 rfl).cell 0 _ rfl
  have c0 := (Below.cell HH.out.ext HB.out).trans hb
  have HEx := Lib.hid HH.out.ext
  have he := HE.out
  cases V with
  | false =>
    go_wp2_with fail
    go_ret
    exact ⟨rfl, HEx.out⟩
  | true =>
    go_wp2_with fail
    go_ret
    exact ⟨rfl, HEx.out⟩
theorem call_find1 : ∀ args w, (callFunc 177 args).run Tryz.prog w = .ok (.enter 177 args) w := callF Tryz.func177 (by kernel_rfl) rfl
theorem call_snap1 : ∀ args w, (callFunc 215 args).run Tryz.prog w = .ok (.enter 215 args) w := callF Tryz.func215 (by kernel_rfl) rfl
set_option maxRecDepth 100000 in
theorem find_any (w : World) (t : Tnt) (s : ByteArray) (h : Sl.At w 0 w.heap.size Dst.cells (Dst.At w 0 w.heap.size) t.sets) :
    Calls Tryz.prog 136 #[.agg t.cells.toArray, .string s] w fun e w' => e = .returned (.int .i64 (atS t.sets.xs s)) ∧ Ext w w' := by
  have HI := Lib.hid (fun W (hW : Ext w W) b (hb : W.cell? ⟨b, 0, none⟩ = some (.string s)) => idxd_any W t.sets.A t.sets.n t.sets.c t.sets.xs h.len (Nat.le_trans (Nat.le_trans h.le h.cap) (by decide)) (Rd.at h.rd hW (Nat.le_refl _)) (fun x => decide (x.path = s)) _ 177 #[.pointer (some ⟨b, 0, none⟩)] rfl call_find1
    (fun x hx w1 e1 => find1_any w1 b s x ((Below.cell e1 (World.block_lt_of_cell? W _ hb)).trans hb)))
  clear h
  obtain ⟨t1, t2, t3, ⟨A, n, c, xs⟩, t5, t6, t7⟩ := t
  unfold atS
  simp only [Tnt.cells, Sl.val] at *
  go_enter Tryz.func136, Tryz.ntmps136
  go_upto_region 1 with fail
  generalize hwH : World.alloc (World.alloc w _) _ = w1; have HH := Lib.hid (Heap.two hwH); clear hwH
  have g3 := (HH.out.boxAt 1 rfl).cell 3 _ rfl
  go_wp2_with fail
  refine (HI.out _ HH.out.ext _ ((HH.out.boxAt 0 rfl).cell 0 _ rfl)).mono ?_
  rintro e w2 ⟨rfl, e2⟩
  have HE := Lib.hid (HH.out.ext.trans e2)
  go_wp2_with fail
  go_ret
  exact ⟨rfl, HE.out⟩
set_option maxRecDepth 100000 in
theorem snap_any (w : World) (t : Dst) (s : ByteArray) (h : Sl.At w 0 w.heap.size Sna.cells (Sna.At w 0 w.heap.size) t.snaps) :
    Calls Tryz.prog 184 #[.agg t.cells.toArray, .string s] w fun e w' => e = .returned (.int .i64 (findI (fun x : Sna => decide (x.name = s)) t.snaps.xs)) ∧ Ext w w' := by
  have HI := Lib.hid (fun W (hW : Ext w W) b (hb : W.cell? ⟨b, 0, none⟩ = some (.string s)) => idxs_any W t.snaps.A t.snaps.n t.snaps.c t.snaps.xs h.len (Nat.le_trans (Nat.le_trans h.le h.cap) (by decide)) (Rd.at h.rd hW (Nat.le_refl _)) (fun x => decide (x.name = s)) _ 215 #[.pointer (some ⟨b, 0, none⟩)] rfl call_snap1
    (fun x hx w1 e1 => snap1_any w1 b s x ((Below.cell e1 (World.block_lt_of_cell? W _ hb)).trans hb)))
  clear h
  obtain ⟨t1, t2, t3, ⟨A, n, c, xs⟩, t5⟩ := t
  simp only [Dst.cells, Sl.val] at *
  go_enter Tryz.func184, Tryz.ntmps184
  go_upto_region 1 with fail
  generalize hwH : World.alloc (World.alloc w _) _ = w1; have HH := Lib.hid (Heap.two hwH); clear hwH
  have g3 := (HH.out.boxAt 1 rfl).cell 3 _ rfl
  go_wp2_with fail
  refine (HI.out _ HH.out.ext _ ((HH.out.boxAt 0 rfl).cell 0 _ rfl)).mono ?_
  rintro e w2 ⟨rfl, e2⟩
  have HE := Lib.hid (HH.out.ext.trans e2)
  go_wp2_with fail
  go_ret
  exact ⟨rfl, HE.out⟩
end Go.Proofs.YtckaneapjpiocaaGreatDoor
/- The reference's Parts (a text cut at the octet 47) and its Path: the walks. -/
namespace Go.Proofs.YtckaneapjpiocaaGreatDoor
open Go.RowKit
set_option linter.unusedVariables false
set_option linter.unusedSimpArgs false

theorem infoS : (Tryz.prog.info? 9).map (fun i => (i.zero, i.size, i.bytes)) = some (some (.string .empty), 1, 16) := by kernel_rfl
theorem cut_data (s : ByteArray) (a b : Nat) : (s.extract a b).data.toList = (s.data.toList.take b).drop a := by
  rw [ByteArray.data_extract, Array.toList_extract, List.extract_eq_take_drop, List.take_drop]
  by_cases h : a ≤ b
  · rw [Nat.add_sub_cancel' h]
  · have h1 : b - a = 0 := by omega
    rw [h1, Nat.add_zero, List.drop_eq_nil_of_le (by simp; omega), List.drop_eq_nil_of_le (by simp; omega)]
/-- what Parts tells: a row of the parts -/
def PartsOk (s : ByteArray) (w : World) (e : Ending) (w' : World) : Prop :=
  ∃ (ps : List ByteArray) (v : Value), e = .returned v ∧ ps.map (·.data.toList) = parts s.data.toList ∧ w'.ownsRow w.heap.size 9 1 v ps.length (ps.map Value.string) ∧ Ext w w'
theorem go_on (s : ByteArray) (t k : Nat) (hk : k < s.size) (ht : t ≤ k) (out : List ByteArray) (h : parts s.data.toList = out.map (·.data.toList) ++ partsGo ((s.data.toList.take k).drop t) (s.data.toList.drop k)) :
    (s[k]'hk ≠ 47 → parts s.data.toList = out.map (·.data.toList) ++ partsGo ((s.data.toList.take (k + 1)).drop t) (s.data.toList.drop (k + 1))) ∧
    (s[k]'hk = 47 → parts s.data.toList = (out ++ [s.extract t k]).map (·.data.toList) ++ partsGo ((s.data.toList.take (k + 1)).drop (k + 1)) (s.data.toList.drop (k + 1))) := by
  have hl : k < s.data.toList.length := by rw [len_data]; exact hk
  have hg : s.data.toList[k]'hl = s[k]'hk := rfl
  rw [List.drop_eq_getElem_cons hl, partsGo, hg] at h
  constructor
  · intro hn
    rw [if_neg hn] at h
    rw [h, List.take_succ_eq_append_getElem hl, List.drop_append_of_le_length (by rw [List.length_take]; omega), hg]
  · intro he
    rw [if_pos he] at h
    have z : (s.data.toList.take (k + 1)).drop (k + 1) = [] := List.drop_eq_nil_of_le (by rw [List.length_take]; omega)
    rw [h, List.map_append, List.map_cons, List.map_nil, cut_data, List.append_assoc, List.singleton_append, z]
theorem go_end (s : ByteArray) (t : Nat) (out : List ByteArray) (h : parts s.data.toList = out.map (·.data.toList) ++ partsGo ((s.data.toList.take s.size).drop t) (s.data.toList.drop s.size)) : (out ++ [s.extract t s.size]).map (·.data.toList) = parts s.data.toList := by
  have z : s.data.toList.drop s.size = [] := List.drop_eq_nil_of_le (by rw [len_data]; exact Nat.le_refl _)
  rw [z, partsGo] at h
  rw [h, List.map_append, List.map_cons, List.map_nil, cut_data]

set_option maxRecDepth 100000 in
set_option maxHeartbeats 2000000 in
theorem rparts_any (s : ByteArray) (w : World) (hs : s.size < 4294967281) : Calls Tryz.prog 134 #[.string s, .int .u8 47] w (PartsOk s w) := by
  obtain ⟨i0, hi0, hz0, hz1, hz2⟩ := info_parts infoS
  have HB := Lib.hid (go_on s)
  have HE := Lib.hid (go_end s)
  go_enter Tryz.func134, Tryz.ntmps134
  go_wp2_with fail
  go_loopw [5, 6, 7] (fun o a i wr => ∃ (k t : Nat) (out : List ByteArray), k ≤ s.size ∧ i = .int .i64 k ∧ a = .int .i64 t ∧ t ≤ k ∧ out.length ≤ k ∧
    wr.ownsRow w.heap.size 9 1 o out.length (out.map Value.string) ∧ parts s.data.toList = out.map (·.data.toList) ++ partsGo ((s.data.toList.take k).drop t) (s.data.toList.drop k) ∧ Ext w wr) (fun _ _ i _ => s.size - (intOf i).toNat)
  case atStart => exact ⟨0, 0, [], Nat.zero_le _, rfl, rfl, Nat.le_refl _, Nat.le_refl _, World.ownsRow_nil _ _ _ _, rfl, Ext.refl _⟩
  case round =>
    obtain ⟨k, t, out, hk, rfl, rfl, ht, hol, hown0, hrun, e1⟩ := hrel
    have hown := Lib.hid hown0
    clear hown0
    have HR := Lib.hid hrun
    clear hrun
    by_cases hlt : k < s.size
    · obtain ⟨G1, G2⟩ := HB.out t k hlt ht out HR.out
      have H1 := Lib.hid G1
      have H2 := Lib.hid G2
      clear G1 G2
      obtain ⟨y, hy⟩ : ∃ y, s[k]'hlt = y := ⟨_, rfl⟩
      rw [hy] at H1 H2
      by_cases h47 : y = 47
      · subst h47
        have H3 := Lib.hid (H2.out rfl)
        clear H1 H2
        have HO := Lib.hid (show (out.length + 1) * 16 ≤ 140737488355328 by omega)
        have HO2 := Lib.hid (show w.heap.size ≤ (wr.alloc (.cells #[.string (s.extract t k)] 9)).heap.size by have := e1.size; simp; omega)
        go_upto_region 7 with fail
        iterate 60 (first | at_builtin | go_step)
        refine list_app _ rfl (.tmp 19) (.tmp 24) _ rfl 9 i0 _ 1 16 Tryz.underlying109 hi0 hz0 hz1 hz2 rfl (by omega) _ _ out.length _ rfl (hown.out.alloc _) 0 _ _ 1 1 [.string (s.extract t k)] rfl rfl
          ((rd_new _ _ _).more (Nat.zero_le _) (Nat.le_refl _)) (by simp [Value.oneCell']) (by have := HO.out; simp only [maxLen]; omega) HO.out HO2.out ?_
        intro v7 w7 hown7 he7 _ _
        have e9 : Ext w w7 := he7 _ (e1.alloc _) (Nat.le_refl _)
        clear he7 hown
        go_wp2_with fail
        go_roundw
        case rel =>
          refine ⟨k + 1, k + 1, out ++ [s.extract t k], by omega, by go_num, by go_num, by omega, ?_, ?_, H3.out, e9⟩
          · rw [List.length_append]; simp; omega
          · rw [List.length_append, List.map_append]; exact hown7
        case measure => simp [intOf]; omega
      · have H3 := Lib.hid (H1.out h47)
        have hb : ¬ y.toNat = 47 := fun e => h47 (UInt8.toNat_inj.1 e)
        clear H1 H2
        go_wp2_with fail
        go_roundw
        case rel => exact ⟨k + 1, t, out, by omega, by go_num, rfl, by omega, by omega, hown.out, H3.out, e1⟩
        case measure => simp [intOf]; omega
    · obtain rfl : k = s.size := by omega
      have H3 := Lib.hid (HE.out t out HR.out)
      have HO := Lib.hid (show (out.length + 1) * 16 ≤ 140737488355328 by omega)
      have HO2 := Lib.hid (show w.heap.size ≤ (wr.alloc (.cells #[.string (s.extract t s.size)] 9)).heap.size by have := e1.size; simp; omega)
      go_upto_region 9 with fail
      iterate 60 (first | at_builtin | go_step)
      refine list_app _ rfl (.tmp 28) (.tmp 32) _ rfl 9 i0 _ 1 16 Tryz.underlying109 hi0 hz0 hz1 hz2 rfl (by omega) _ _ out.length _ rfl (hown.out.alloc _) 0 _ _ 1 1 [.string (s.extract t s.size)] rfl rfl
        ((rd_new _ _ _).more (Nat.zero_le _) (Nat.le_refl _)) (by simp [Value.oneCell']) (by have := HO.out; simp only [maxLen]; omega) HO.out HO2.out ?_
      intro v7 w7 hown7 he7 _ _
      have e9 : Ext w w7 := he7 _ (e1.alloc _) (Nat.le_refl _)
      clear he7 hown
      go_wp2_with fail
      go_ret
      refine ⟨out ++ [s.extract t s.size], v7, rfl, H3.out, ?_, e9⟩
      rw [List.length_append, List.map_append]; exact hown7

set_option maxRecDepth 100000 in
set_option maxHeartbeats 1000000 in
theorem rpath_any (s : ByteArray) (w : World) (hs : s.size < 4294967281) : Calls Tryz.prog 73 #[.string s] w fun e w' => e = .returned (.bool (pathB s)) ∧ Ext w w' := by
  by_cases h0 : s.size = 0
  · obtain rfl := empty_of s h0
    have hv := Lib.hid (show pathB ⟨#[]⟩ = true from rfl)
    go_enter Tryz.func73, Tryz.ntmps73
    go_wp2_with fail
    go_ret
    exact ⟨by rw [hv.out]; rfl, Ext.refl _⟩
  · have HS := Lib.hid (rparts_any s w hs)
    have b0 : s.toList.isEmpty = false := by
      rw [ByteArray.toList_eq, List.isEmpty_eq_false_iff]
      intro e
      have := len_data s
      rw [e] at this
      exact h0 this.symm
    have HP := Lib.hid (fun ps hp => pathB_of s (by omega) ps hp)
    have HF := Lib.hid (parts_fit s (by omega))
    have HL := Lib.hid (parts_len s)
    have HB := Lib.hid hs
    clear hs
    go_enter Tryz.func73, Tryz.ntmps73
    go_wp2_with fail
    refine HS.out.mono ?_
    rintro e w2 ⟨ps, v, rfl, hp, hown, e2⟩
    have hv := Lib.hid (HP.out ps hp)
    have hf := Lib.hid (HF.out ps hp)
    have hl := Lib.hid (HL.out ps hp)
    clear hp
    obtain ⟨A, c, rfl, hc, hc2, _⟩ := own_form hown
    have HR := Lib.hid (Rd.of_own hown)
    clear hown
    have hbig : ps.length ≤ 4294967299 := by have := hl.out; have := HB.out; omega
    go_wp2_with fail
    go_loopw [4] (fun i wr => ∃ k : Nat, k ≤ ps.length ∧ i = .int .i64 k ∧ (ps.take k).any noName = false ∧ Ext w2 wr) (fun i _ => ps.length - (intOf i).toNat)
    case atStart => exact ⟨0, Nat.zero_le _, rfl, rfl, Ext.refl _⟩
    case round =>
      obtain ⟨k, hk, rfl, hno, e3⟩ := hrel
      have HK := Lib.hid hno
      clear hno
      by_cases hlt : k < ps.length
      · obtain ⟨b1, o1, rfl, _, _, f0⟩ := rd_str (HR.out.ext e3 (Nat.le_refl _)) (k := k) (by omega)
        obtain ⟨y, hy⟩ : ∃ y, y = ps[k]'hlt := ⟨_, rfl⟩
        rw [← hy] at f0
        have HY := Lib.hid hy
        clear hy
        have HLT := Lib.hid hlt
        go_wp2_with fail
        refine (rname_any y _ (by have := hf.out y (by rw [HY.out]; exact List.getElem_mem _); exact this)).mono ?_
        rintro e w4 ⟨rfl, e4⟩
        cases ho : nameB y
        · have hq : pathB s = false := by
            rw [hv.out]
            have h1 : ps.any noName = true := List.any_eq_true.2 ⟨y, by rw [HY.out]; exact List.getElem_mem _, by rw [noName, ho]; rfl⟩
            rw [h1]
            simp
          have hv := Lib.hid hq
          clear hq
          go_wp2_with fail
          go_ret
          exact ⟨by rw [hv.out]; rfl, by (repeat (first | exact Below.refl _ _ | exact Ext.refl _ | assumption | refine Below.drew ?_ | refine below_drewN ?_ _ | refine below_alloc ?_ (by first | exact Nat.le_refl _ | assumption | (simp; done) | omega | (simp; omega)) _ | refine below_ext ?_ (by assumption) (by first | exact Nat.le_refl _ | assumption | (simp; done) | omega | (simp; omega)) | refine Ext.drew ?_ | refine Ext.drewN ?_ _ | refine Ext.alloc ?_ _ | refine Ext.setCell ?_ (by first | assumption | (simp; done) | (simp; omega)) _ | refine Below.setCell ?_ (by first | assumption | (simp; done) | (simp; omega)) _ | refine Ext.trans ?_ (by assumption)))⟩
        · go_wp2_with fail
          go_roundw
          case rel =>
            refine ⟨k + 1, HLT.out, by go_num, ?_, by (repeat (first | exact Below.refl _ _ | exact Ext.refl _ | assumption | refine Below.drew ?_ | refine below_drewN ?_ _ | refine below_alloc ?_ (by first | exact Nat.le_refl _ | assumption | (simp; done) | omega | (simp; omega)) _ | refine below_ext ?_ (by assumption) (by first | exact Nat.le_refl _ | assumption | (simp; done) | omega | (simp; omega)) | refine Ext.drew ?_ | refine Ext.drewN ?_ _ | refine Ext.alloc ?_ _ | refine Ext.setCell ?_ (by first | assumption | (simp; done) | (simp; omega)) _ | refine Below.setCell ?_ (by first | assumption | (simp; done) | (simp; omega)) _ | refine Ext.trans ?_ (by assumption)))⟩
            rw [List.take_succ_eq_append_getElem hlt, List.any_append, HK.out, ← HY.out]
            simp [noName, ho]
          case measure => (have := HLT.out; simp [intOf]; omega)
      · obtain rfl : k = ps.length := by omega
        have h1 := HK.out
        rw [List.take_of_length_le (Nat.le_refl _)] at h1
        have hq : pathB s = decide (ps.length ≤ 4) := by rw [hv.out, h1]; simp
        have hv := Lib.hid hq
        clear hq h1
        by_cases h4 : ps.length ≤ 4
        · have hd : decide ((ps.length : Int) ≤ 4) = true := by simp; omega
          have hq : pathB s = true := by rw [hv.out, decide_eq_true h4]
          have hv := Lib.hid hq
          clear hq
          go_wp2_with fail
          go_ret
          exact ⟨by rw [hv.out]; rfl, by (repeat (first | exact Below.refl _ _ | exact Ext.refl _ | assumption | refine Below.drew ?_ | refine below_drewN ?_ _ | refine below_alloc ?_ (by first | exact Nat.le_refl _ | assumption | (simp; done) | omega | (simp; omega)) _ | refine below_ext ?_ (by assumption) (by first | exact Nat.le_refl _ | assumption | (simp; done) | omega | (simp; omega)) | refine Ext.drew ?_ | refine Ext.drewN ?_ _ | refine Ext.alloc ?_ _ | refine Ext.setCell ?_ (by first | assumption | (simp; done) | (simp; omega)) _ | refine Below.setCell ?_ (by first | assumption | (simp; done) | (simp; omega)) _ | refine Ext.trans ?_ (by assumption)))⟩
        · have hd : decide ((ps.length : Int) ≤ 4) = false := by simp; omega
          have hq : pathB s = false := by rw [hv.out, decide_eq_false h4]
          have hv := Lib.hid hq
          clear hq
          go_wp2_with fail
          go_ret
          exact ⟨by rw [hv.out]; rfl, by (repeat (first | exact Below.refl _ _ | exact Ext.refl _ | assumption | refine Below.drew ?_ | refine below_drewN ?_ _ | refine below_alloc ?_ (by first | exact Nat.le_refl _ | assumption | (simp; done) | omega | (simp; omega)) _ | refine below_ext ?_ (by assumption) (by first | exact Nat.le_refl _ | assumption | (simp; done) | omega | (simp; omega)) | refine Ext.drew ?_ | refine Ext.drewN ?_ _ | refine Ext.alloc ?_ _ | refine Ext.setCell ?_ (by first | assumption | (simp; done) | (simp; omega)) _ | refine Below.setCell ?_ (by first | assumption | (simp; done) | (simp; omega)) _ | refine Ext.trans ?_ (by assumption)))⟩
end Go.Proofs.YtckaneapjpiocaaGreatDoor
/- names.Parent, names.Split; slices.IsSorted of texts; tree.unlike, tagged. -/
namespace Go.Proofs.YtckaneapjpiocaaGreatDoor
open Go.RowKit Go.Maps Go.Sort Go.Shelf
set_option linter.unusedVariables false
set_option linter.unusedSimpArgs false

set_option maxRecDepth 100000 in
set_option maxHeartbeats 2000000 in
theorem parent_any (s : ByteArray) (w : World) (hM : MaxV w) (hs : s.size ≤ 1048576) :
    Calls Tryz.prog 137 #[.string s] w fun e w' => e = .returned (.tuple #[.string ((parO s).getD ⟨#[]⟩), .bool (parO s).isSome]) ∧ Ext w w' := by
  by_cases h0 : s.size = 0
  · obtain rfl := empty_of s h0
    have hv := Lib.hid (show parO ⟨#[]⟩ = none from rfl)
    go_enter Tryz.func137, Tryz.ntmps137
    go_wp2_with fail
    go_ret2
    exact ⟨by rw [hv.out]; rfl, Ext.refl _⟩
  · have b0 : s.toList.isEmpty = false := by
      rw [ByteArray.toList_eq, List.isEmpty_eq_false_iff]
      intro e
      have := len_data s
      rw [e] at this
      exact h0 this.symm
    have HP := Lib.hid (path_any s w hM (by omega))
    have HL := Lib.hid (fun W => Tryz.strings_LastIndexByte s 47 (by omega) W)
    have HV := Lib.hid (show parO s = if pathB s = true then some (s.extract 0 (max (Go.Lib.lastIndexByte s 47) 0).toNat) else none by rw [parO, if_neg h0])
    have hb : -1 ≤ Go.Lib.lastIndexByte s 47 ∧ Go.Lib.lastIndexByte s 47 < (s.size : Int) := by
      rcases Go.Lib.lastIndexByte_spec s 47 with ⟨e, _⟩ | ⟨i, hi, e, _⟩ <;> rw [e] <;> omega
    generalize Go.Lib.lastIndexByte s 47 = k at *
    generalize pathB s = pb at *
    generalize parO s = V at *
    clear h0
    cases pb with
    | false =>
      obtain rfl : V = none := HV.out
      go_enter Tryz.func137, Tryz.ntmps137
      go_wp2_with (refine HP.out.mono ?_; rintro e w2 ⟨rfl, e2⟩)
      go_ret2
      exact ⟨rfl, e2⟩
    | true =>
      obtain rfl : V = some (s.extract 0 (max k 0).toNat) := HV.out
      go_enter Tryz.func137, Tryz.ntmps137
      go_upto_region 3 with (refine HP.out.mono ?_; rintro e w2 ⟨rfl, e2⟩)
      go_wp2_with fail
      refine (HL.out _).mono ?_
      rintro e w3 ⟨rfl, rfl⟩
      go_wp2_with fail
      go_ret2
      exact ⟨rfl, e2⟩
theorem cut_pre (s : ByteArray) (k : Nat) : (⟨(s.data.toList.take k).toArray⟩ : ByteArray) = s.extract 0 k := by
  have h := cut_data s 0 k
  rw [List.drop_zero] at h
  cases hq : s.extract 0 k with
  | mk d => rw [hq] at h; congr 1; exact Array.toList_inj.1 (by rw [← h])
theorem cut_post (s : ByteArray) (k : Nat) : (⟨(s.data.toList.drop k).toArray⟩ : ByteArray) = s.extract k s.size := by
  have h := cut_data s k s.size
  rw [List.take_of_length_le (by rw [len_data]; exact Nat.le_refl _)] at h
  cases hq : s.extract k s.size with
  | mk d => rw [hq] at h; congr 1; exact Array.toList_inj.1 (by rw [← h])
theorem splP_sz (s : ByteArray) : (splP s).size ≤ s.size := by rw [splP, ByteArray.size_extract]; omega
theorem splN_sz (s : ByteArray) : (splN s).size ≤ s.size := by rw [splN, ByteArray.size_extract]; omega
set_option maxRecDepth 100000 in
set_option maxHeartbeats 2000000 in
theorem nsplit_any (s : ByteArray) (w : World) (hM : MaxV w) (hs : s.size ≤ 1048576) :
    Calls Tryz.prog 183 #[.string s] w fun e w' => e = .returned (if splB s = true then .tuple #[.string (splP s), .string (splN s), .int .i64 0] else .tuple #[.string ⟨#[]⟩, .string ⟨#[]⟩, .int .i64 31]) ∧ Ext w w' := by
  obtain ⟨m, hm⟩ := id hM
  have HC := Lib.hid (Tryz.strings_Cut s ⟨#[64]⟩ m w (by omega) hm)
  have HP := Lib.hid (fun W (hW : Ext w W) => path_any (splP s) W (hM.ext hW) (by have := splP_sz s; omega))
  have HN := Lib.hid (fun W => name_any (splN s) W (by have := splN_sz s; omega))
  have HV := Lib.hid (show splB s = (decide (0 ≤ atI s) && (pathB (splP s) && nameB (splN s))) from rfl)
  have HK := Lib.hid (show 0 ≤ atI s → Go.Lib.cut s.data.toList [64] = ((splP s).data.toList, (splN s).data.toList, true) from fun h => by
    unfold atI at h
    rw [Go.Lib.cut, if_pos h, splP, splN, ← cut_pre, ← cut_post]; rfl)
  have HJ := Lib.hid (show ¬ 0 ≤ atI s → Go.Lib.cut s.data.toList [64] = (s.data.toList, [], false) from fun h => by
    unfold atI at h
    rw [Go.Lib.cut, if_neg h])
  generalize splB s = V at *
  clear hm hM hs
  by_cases h0 : 0 ≤ atI s
  · have hk := HK.out h0
    rw [decide_eq_true h0] at HV
    rw [show (⟨#[64]⟩ : ByteArray).data.toList = [64] from rfl, hk] at HC
    simp only at HC
    rw [show (⟨(splP s).data.toList.toArray⟩ : ByteArray) = splP s from rfl, show (⟨(splN s).data.toList.toArray⟩ : ByteArray) = splN s from rfl] at HC
    clear HK HJ hk h0
    generalize splP s = p at *
    generalize splN s = q at *
    cases hp : pathB p with
    | false =>
      rw [hp] at HV HP
      obtain rfl : V = false := HV.out
      go_enter Tryz.func183, Tryz.ntmps183
      go_wp2_with fail
      refine HC.out.mono ?_
      rintro e w2 ⟨rfl, nn, rfl⟩
      have E2 : Ext w (w.drewN nn) := Ext.drewN (Ext.refl w) nn
      go_wp2_with fail
      refine (HP.out _ E2).mono ?_
      rintro e w3 ⟨rfl, e3⟩
      have HE := Lib.hid (E2.trans e3)
      clear E2 e3
      go_wp2_with fail
      go_ret3
      exact ⟨rfl, HE.out⟩
    | true =>
      rw [hp] at HV HP
      cases hq : nameB q with
      | false =>
        rw [hq] at HV HN
        obtain rfl : V = false := HV.out
        go_enter Tryz.func183, Tryz.ntmps183
        go_wp2_with fail
        refine HC.out.mono ?_
        rintro e w2 ⟨rfl, nn, rfl⟩
        have E2 : Ext w (w.drewN nn) := Ext.drewN (Ext.refl w) nn
        go_wp2_with fail
        refine (HP.out _ E2).mono ?_
        rintro e w3 ⟨rfl, e3⟩
        have HE := Lib.hid (E2.trans e3)
        clear E2 e3
        go_wp2_with fail
        refine (HN.out _).mono ?_
        rintro e w4 ⟨rfl, e4⟩
        go_wp2_with fail
        go_ret3
        exact ⟨rfl, HE.out.trans e4⟩
      | true =>
        rw [hq] at HV HN
        obtain rfl : V = true := HV.out
        go_enter Tryz.func183, Tryz.ntmps183
        go_wp2_with fail
        refine HC.out.mono ?_
        rintro e w2 ⟨rfl, nn, rfl⟩
        have E2 : Ext w (w.drewN nn) := Ext.drewN (Ext.refl w) nn
        go_wp2_with fail
        refine (HP.out _ E2).mono ?_
        rintro e w3 ⟨rfl, e3⟩
        have HE := Lib.hid (E2.trans e3)
        clear E2 e3
        go_wp2_with fail
        refine (HN.out _).mono ?_
        rintro e w4 ⟨rfl, e4⟩
        go_wp2_with fail
        go_ret3
        exact ⟨rfl, HE.out.trans e4⟩
  · have hk := HJ.out h0
    rw [decide_eq_false h0] at HV
    obtain rfl : V = false := HV.out
    rw [show (⟨#[64]⟩ : ByteArray).data.toList = [64] from rfl, hk] at HC
    simp only at HC
    clear HK HJ hk h0 HP HN
    go_enter Tryz.func183, Tryz.ntmps183
    go_wp2_with fail
    refine HC.out.mono ?_
    rintro e w2 ⟨rfl, nn, rfl⟩
    have E2 : Ext w (w.drewN nn) := Ext.drewN (Ext.refl w) nn
    go_wp2_with fail
    go_ret3
    exact ⟨rfl, E2⟩
theorem nan_any (w : World) (s : ByteArray) : Calls Tryz.prog 123 #[.string s] w fun e w' => e = .returned (.bool false) ∧ w' = w := by
  go_enter Tryz.func123, Tryz.ntmps123
  go_wp2_with fail
  go_ret
  exact ⟨by simp, rfl⟩
theorem lessS_any (w : World) (a b : ByteArray) : Calls Tryz.prog 230 #[.string a, .string b] w fun e w' => e = .returned (.bool (lessB a b)) ∧ w' = w := by
  have HL := Lib.hid (show lessB a b = Op.bytesLess a.toList b.toList from rfl)
  generalize lessB a b = V at *
  go_enter Tryz.func230, Tryz.ntmps230
  go_wp2_with (refine (nan_any _ _).mono ?_; rintro e wN ⟨rfl, rfl⟩)
  go_ret
  exact ⟨by rw [HL.out]; simp, rfl⟩
/-- texts, in order -/
def srtS (l : List ByteArray) : Bool := (List.range (l.length - 1)).all fun k => !lessB (l.getD (k + 1) .empty) (l.getD k .empty)
set_option maxRecDepth 100000 in
set_option maxHeartbeats 2000000 in
theorem sorted_any (w : World) (A : Option Addr) (n c : Nat) (l : List ByteArray) (hn : n = l.length) (hm : n ≤ 9223372036854775807) (hr : Rd w 0 w.heap.size A (l.map Value.string)) :
    Calls Tryz.prog 211 #[.slice A n c] w fun e w' => e = .returned (.bool (srtS l)) ∧ Ext w w' := by
  have Hn := Lib.hid hn
  have HNo := Lib.hid (fun (k : Nat) (h : k + 1 < l.length) (hp : lessB l[k + 1] l[k] = true) => show srtS l = false by
    rw [srtS, List.all_eq_false]
    refine ⟨k, List.mem_range.2 (by omega), ?_⟩
    simp [List.getD, List.getElem?_eq_getElem h, List.getElem?_eq_getElem (show k < l.length by omega), hp])
  have HYes := Lib.hid (fun (hp : ∀ k (h : k + 1 < l.length), lessB l[k + 1] l[k] = false) => show srtS l = true by
    rw [srtS, List.all_eq_true]
    intro k hk
    have hk := List.mem_range.1 hk
    simp [List.getD, List.getElem?_eq_getElem (show k + 1 < l.length by omega), List.getElem?_eq_getElem (show k < l.length by omega), hp k (by omega)])
  generalize srtS l = V at *
  clear hn
  go_enter Tryz.func211, Tryz.ntmps211
  go_wp2_with fail
  go_loopw [3] (fun i wr => ∃ k : Int, -1 ≤ k ∧ k < (n : Int) ∧ i = .int .i64 k ∧ Hid (∀ j (h : j + 1 < l.length), k ≤ (j : Int) → lessB l[j + 1] l[j] = false) ∧ Ext w wr) (fun i _ => (intOf i).toNat)
  case atStart => exact ⟨(n : Int) - 1, by omega, by omega, by go_num, Lib.hid (fun j h hj => by have := Hn.out; omega), Ext.refl _⟩
  case round =>
    obtain ⟨k, hk, hkn, rfl, HK, e1⟩ := hrel
    by_cases hlt : 0 < k
    · obtain ⟨j, rfl⟩ : ∃ j : Nat, k = (j : Int) + 1 := ⟨(k - 1).toNat, by omega⟩
      have l1 : j + 1 < l.length := by rw [← Hn.out]; omega
      have l0 : j < l.length := by omega
      obtain ⟨b1, o1, rfl, _, _, f1⟩ := rd_str (Rd.at hr e1 (Nat.le_refl _)) l1
      obtain ⟨b2, o2, hh, _, _, f0⟩ := rd_str (Rd.at hr e1 (Nat.le_refl _)) l0
      obtain ⟨rfl, rfl⟩ : b1 = b2 ∧ o1 = o2 := by simpa using hh
      have HB := Lib.hid (HNo.out j l1)
      have HT := Lib.hid (fun (hp : lessB l[j + 1] l[j] = false) (i : Nat) (h : i + 1 < l.length) (hi : (j : Int) ≤ (i : Int)) => show lessB l[i + 1] l[i] = false from by
        rcases Nat.lt_or_ge j i with h1 | h1
        · exact HK.out i h (by omega)
        · obtain rfl : i = j := by omega
          exact hp)
      generalize l[j + 1] = x at *
      generalize l[j] = y at *
      have q0 : (0 : Int) ≤ (j : Int) + 1 := by omega
      have q1 : (j : Int) + 1 < (n : Int) := hkn
      have q2 : (j : Int) < (n : Int) := by omega
      have q3 : IntKind.i64.wrap (j : Int) = (j : Int) := IntWalk.i64_in _ (by omega)
      clear hh l0 l1
      have c0 : ∀ W, Ext wr W → W.cell? ⟨b1, o1 + (j + 1), none⟩ = some (.string x) := fun W hW => (Below.cell hW (World.block_lt_of_cell? wr _ f1)).trans f1
      have c1 : ∀ W, Ext wr W → W.cell? ⟨b1, o1 + j, none⟩ = some (.string y) := fun W hW => (Below.cell hW (World.block_lt_of_cell? wr _ f0)).trans f0
      clear f0 f1
      go_upto_region 4 with fail
      refine wp_region_held_drew (S := fun W => Ext wr W) (by kernel_rfl) (Ext.drew (Ext.refl wr)) (fun hHeld => ?_)
      refine tU 0 rfl (by kernel_rfl) (fun _ _ _ h => h) (by intro w hSw; (try dsimp only at hSw); go_simp <;> with_reducible rfl) (by assumption) ?_; (try simp only [Act.put, lyA, lyB, lyC])
      refine tU 1 rfl (by kernel_rfl) (fun _ _ _ h => h) (by intro w hSw; (try dsimp only at hSw); go_simp <;> with_reducible rfl) (by assumption) ?_; (try simp only [Act.put, lyA, lyB, lyC])
      refine tU 2 rfl (by kernel_rfl) (fun _ _ _ h => h) (by intro w hSw; (try dsimp only at hSw); go_simp <;> with_reducible rfl) (by assumption) ?_; (try simp only [Act.put, lyA, lyB, lyC])
      refine tU 3 rfl (by kernel_rfl) (fun _ _ _ h => h) (by intro w hSw; (try dsimp only at hSw); go_simp <;> with_reducible rfl) (by assumption) ?_; (try simp only [Act.put, lyA, lyB, lyC])
      refine tU 4 rfl (by kernel_rfl) (fun _ _ _ h => h) (by intro w hSw; (try dsimp only at hSw); go_simp <;> with_reducible rfl) (by assumption) ?_; (try simp only [Act.put, lyA, lyB, lyC])
      refine tU 5 rfl (by kernel_rfl) (fun _ _ _ h => h) (by intro w hSw; (try dsimp only at hSw); go_simp <;> with_reducible rfl) (by assumption) ?_; (try simp only [Act.put, lyA, lyB, lyC])
      refine tU 6 rfl (by kernel_rfl) (fun _ _ _ h => h) (by intro w hSw; (try dsimp only at hSw); go_simp <;> with_reducible rfl) (by assumption) ?_; (try simp only [Act.put, lyA, lyB, lyC])
      refine tU 7 rfl (by kernel_rfl) (fun _ _ _ h => h) (by intro w hSw; (try dsimp only at hSw); go_simp <;> with_reducible rfl) (by assumption) ?_; (try simp only [Act.put, lyA, lyB, lyC])
      refine tU 8 rfl (by kernel_rfl) (fun _ _ _ h => h) (by intro w hSw; (try dsimp only at hSw); go_simp <;> with_reducible rfl) (by assumption) ?_; (try simp only [Act.put, lyA, lyB, lyC])
      clear hHeld
      refine oneL 9 rfl (by kernel_rfl) (by kernel_rfl) (fun K hK => ?_)
      go_simp
      refine (lessS_any _ x y).mono ?_
      rintro e w3 ⟨rfl, rfl⟩
      go_wp2_with fail
      refine hK.out _ _ (Ext.drew (Ext.refl wr)) (fun hHeld => ?_)
      clear hK K
      (try simp only [Act.put, lyA, lyB, lyC])
      refine wpAnyH_done (by kernel_rfl) ?_ _
      clear hHeld c0 c1
      cases hb : lessB x y with
      | true =>
        go_wp2_with fail
        go_ret
        exact ⟨by rw [HB.out hb]; rfl, Ext.drew e1⟩
      | false =>
        have HT2 := Lib.hid (HT.out hb)
        clear HT HB hb
        go_wp2_with fail
        go_roundw
        case rel => exact ⟨(j : Int), by omega, by omega, by go_num, HT2, Ext.drew e1⟩
        case measure => (first | (simp [intOf]; done) | (simp [intOf]; omega))
    · go_wp2_with fail
      go_ret
      exact ⟨by rw [HYes.out (fun j h => HK.out j h (by omega))]; rfl, e1⟩
theorem run_sl_upN {P : Program} (w : World) (t e : TypeId) (inf : TypeInfo) (ht : P.underlying t = some (.slice e)) (hi : P.info? e = some inf) (A : Option Addr) (n c m : Nat) (M : Int) (hM : M = (m : Int)) (hm : m ≤ c) :
    (Instr.slice t (.slice A n c) none (some (.int .i64 M)) none).run P w = .ok (.slice A m c) w := by
  subst hM
  have hb : (Instr.sliceBounds true n c none (some (.int .i64 (m : Int))) none).run P w = .ok (0, m, c) w := by
    simp [Instr.sliceBounds, run_sliceBound (P := P) w .i64 (m : Int) c .sliceAcap (by omega) (by omega)]
  cases A with
  | none => simp [Instr.slice, run_underlying ht, hb, sizeOf, typeInfo, hi]
  | some a => simp [Instr.slice, run_underlying ht, hb, sizeOf, typeInfo, hi, Addr.add]
theorem unl_no (l : List ByteArray) (k : Nat) (h : k < l.length) (hp : nameB l[k] = false ∨ hasS (l.take k) l[k] = true) : unlB l = false := by
  rw [unlB, List.all_eq_false]
  refine ⟨k, List.mem_range.2 h, ?_⟩
  simp only [List.getD, List.getElem?_eq_getElem h, Option.getD_some]
  rcases hp with hp | hp <;> rw [hp] <;> simp
theorem unl_yes (l : List ByteArray) (hp : ∀ k (h : k < l.length), nameB l[k] = true ∧ hasS (l.take k) l[k] = false) : unlB l = true := by
  rw [unlB, List.all_eq_true]
  intro k hk
  have hk := List.mem_range.1 hk
  simp only [List.getD, List.getElem?_eq_getElem hk, Option.getD_some]
  rw [(hp k hk).1, (hp k hk).2]; rfl
theorem containsS_is (l : List ByteArray) (x : ByteArray) : Go.Lib.containsS l x = hasS l x := by
  cases h : hasS l x with
  | true => exact (Go.Lib.containsS_iff l x).2 ((hasS_iff l x).1 h)
  | false =>
    cases h2 : Go.Lib.containsS l x with
    | false => rfl
    | true => rw [(hasS_iff l x).2 ((Go.Lib.containsS_iff l x).1 h2)] at h; exact h
set_option maxRecDepth 100000 in
set_option maxHeartbeats 2000000 in
theorem unlike_any (w : World) (A : Option Addr) (n c : Nat) (l : List ByteArray) (hn : n = l.length) (hc : n ≤ c) (hm : c ≤ maxLen) (hr : Rd w 0 w.heap.size A (l.map Value.string)) (hs : ∀ s ∈ l, sml s) :
    Calls Tryz.prog 182 #[.slice A n c] w fun e w' => e = .returned (.bool (unlB l)) ∧ Ext w w' := by
  obtain ⟨i0, hi0, hz0, hz1, hz2⟩ := info_parts info9
  have Hn := Lib.hid hn
  have HS := Lib.hid hs
  have HNo := Lib.hid (unl_no l)
  have HYes := Lib.hid (unl_yes l)
  have hm2 : n ≤ 9223372036854775807 := Nat.le_trans (Nat.le_trans hc hm) (by decide)
  generalize unlB l = V at *
  clear hn hs
  go_enter Tryz.func182, Tryz.ntmps182
  go_wp2_with fail
  go_loopw [3, 4, 7] (fun _ _ i wr => ∃ k : Nat, k ≤ n ∧ i = .int .i64 k ∧ Hid (∀ j (h : j < l.length), j < k → nameB l[j] = true ∧ hasS (l.take j) l[j] = false) ∧ Ext w wr) (fun _ _ i _ => n - (intOf i).toNat)
  case atStart => exact ⟨0, Nat.zero_le _, rfl, Lib.hid (fun j h hj => absurd hj (Nat.not_lt_zero _)), Ext.refl _⟩
  case round =>
    obtain ⟨k, hk, rfl, HK, e1⟩ := hrel
    by_cases hlt : k < n
    · have l1 : k < l.length := by rw [← Hn.out]; exact hlt
      obtain ⟨b1, o1, rfl, _, hb1, f1⟩ := rd_str (Rd.at hr e1 (Nat.le_refl _)) l1
      have HCs := Lib.hid (fun (W : World) (hW : Ext wr W) (x : ByteArray) => show Calls Tryz.prog 212 #[.slice (some ⟨b1, o1, none⟩) k c, .string x] W (fun e w' => e = .returned (.bool (hasS (l.take k) x)) ∧ w' = W) from by
        refine (Tryz.slices_Contains_string b1 o1 k c l x W (by omega) (by omega) (fun j hj => ?_)).mono ?_
        · obtain ⟨b2, o2, hh, _, hb2, f2⟩ := rd_str (Rd.at hr e1 (Nat.le_refl _)) hj
          obtain ⟨rfl, rfl⟩ : b1 = b2 ∧ o1 = o2 := by simpa using hh
          rw [Below.cell hW hb2, f2]
          simp [List.getD, hj]
        · rintro e w' ⟨rfl, rfl⟩
          exact ⟨by rw [containsS_is], rfl⟩)
      have HNm := Lib.hid (fun W => name_any l[k] W (Nat.le_trans (HS.out _ (List.getElem_mem l1)) (by decide)))
      have HB := Lib.hid (HNo.out k l1)
      have HT := Lib.hid (fun (hp : nameB l[k] = true ∧ hasS (l.take k) l[k] = false) (j : Nat) (h : j < l.length) (hj : j < k + 1) => show nameB l[j] = true ∧ hasS (l.take j) l[j] = false from by
        rcases Nat.lt_or_ge j k with h1 | h1
        · exact HK.out j h h1
        · obtain rfl : j = k := by omega
          exact hp)
      generalize l[k] = x at *
      have hs1 := fun W => run_sl_upN (P := Tryz.prog) W 109 9 i0 Tryz.underlying109 hi0 (some ⟨b1, o1, none⟩) n c k (k : Int) rfl (by omega)
      cases hb : nameB x with
      | false =>
        rw [hb] at HNm
        have HF := Lib.hid (HB.out (.inl hb))
        clear hb HB HT
        go_wp2_with fail
        refine (HNm.out _).mono ?_
        rintro e w2 ⟨rfl, e2⟩
        have HE := Lib.hid (e1.trans e2)
        go_wp2_with fail
        go_ret
        exact ⟨by rw [HF.out]; rfl, HE.out⟩
      | true =>
        rw [hb] at HNm
        cases hd : hasS (l.take k) x with
        | true =>
          have HF := Lib.hid (HB.out (.inr hd))
          clear hb HB HT
          go_wp2_with fail
          refine (HNm.out _).mono ?_
          rintro e w2 ⟨rfl, e2⟩
          have HE := Lib.hid (e1.trans e2)
          have HE2 := Lib.hid e2
          clear e1 e2
          go_wp2_with fail
          refine (HCs.out _ HE2.out x).mono ?_
          rintro e w3 ⟨rfl, rfl⟩
          rw [hd]
          go_wp2_with fail
          go_ret
          exact ⟨by rw [HF.out]; rfl, HE.out⟩
        | false =>
          have HT2 := Lib.hid (HT.out ⟨hb, hd⟩)
          clear hb HB HT
          go_wp2_with fail
          refine (HNm.out _).mono ?_
          rintro e w2 ⟨rfl, e2⟩
          have HE := Lib.hid (e1.trans e2)
          have HE2 := Lib.hid e2
          clear e1 e2
          go_wp2_with fail
          refine (HCs.out _ HE2.out x).mono ?_
          rintro e w3 ⟨rfl, rfl⟩
          rw [hd]
          go_wp2_with fail
          go_roundw
          case rel => exact ⟨k + 1, by omega, by go_num, HT2, HE.out⟩
          case measure => (first | (simp [intOf]; done) | (simp [intOf]; omega))
    · obtain rfl : k = n := by omega
      go_wp2_with fail
      go_ret
      exact ⟨by rw [HYes.out (fun j h => HK.out j h (by rw [Hn.out]; exact h))]; rfl, e1⟩
theorem bl_cons (a b : UInt8) (x y : List UInt8) : Op.bytesLess (a :: x) (b :: y) = (decide (a < b) || (decide (a = b) && Op.bytesLess x y)) := by
  simp only [Op.bytesLess]
  by_cases h1 : a < b
  · simp [h1]
  · by_cases h2 : b < a
    · have : a ≠ b := fun e => by subst e; exact h1 h2
      simp [h1, h2, this]
    · have : a = b := UInt8.le_antisymm (UInt8.not_lt.1 h2) (UInt8.not_lt.1 h1)
      subst this
      simp [h1]
theorem bl_lt : ∀ x y : List UInt8, Op.bytesLess x y = decide (x < y)
  | [], [] => by simp [Op.bytesLess]
  | _ :: _, [] => by simp [Op.bytesLess]
  | [], _ :: _ => by simp [Op.bytesLess]
  | a :: x, b :: y => by rw [bl_cons, bl_lt x y, Bool.eq_iff_iff, decide_eq_true_eq, List.cons_lt_cons_iff]; simp
theorem lessB_lt (a b : ByteArray) : lessB a b = decide (a.toList < b.toList) := bl_lt _ _
theorem lessB_trans {a b c : ByteArray} (h1 : lessB a b = true) (h2 : lessB b c = true) : lessB a c = true := by
  rw [lessB_lt, decide_eq_true_eq] at *
  exact List.lt_trans h1 h2
theorem lessB_irr (a : ByteArray) : lessB a a = false := by
  rw [lessB_lt, decide_eq_false_iff_not]
  exact List.lt_irrefl _
theorem lessB_asymm {a b : ByteArray} (h : lessB a b = true) : lessB b a = false := by
  cases h2 : lessB b a with
  | false => rfl
  | true => exact absurd (lessB_trans h h2) (by rw [lessB_irr]; decide)
theorem lessB_tri {a b : ByteArray} (h1 : lessB a b = false) (h2 : lessB b a = false) : a = b := by
  have h := less_tot' a b
  rw [h1, h2, Bool.false_or] at h
  have e : b.toList = a.toList := by simpa using h
  rw [Lib.toList_data, Lib.toList_data] at e
  cases a; cases b
  congr 1
  exact (Array.toList_inj.1 e).symm
theorem tag_is (l : List ByteArray) : tagB l = (decide (l.length ≤ 4) && (unlB l && srtS l)) := by
  unfold tagB
  congr 1
  cases hr : (l.all nameB && risS l) with
  | true =>
    rw [Bool.and_eq_true] at hr
    obtain ⟨h1, h2⟩ := hr
    have hlt : ∀ k (h : k + 1 < l.length), lessB l[k] l[k + 1] = true := fun k h => by
      cases hp : lessB l[k] l[k + 1] with
      | true => rfl
      | false => rw [risS_no l k h hp] at h2; cases h2
    have htr : ∀ d k (h : k + d + 1 < l.length), lessB l[k] l[k + d + 1] = true := fun d => by
      induction d with
      | zero => exact fun k h => hlt k h
      | succ d ih => exact fun k h => lessB_trans (ih k (by omega)) (hlt (k + d + 1) h)
    have u : unlB l = true := unl_yes l fun k h => ⟨List.all_eq_true.1 h1 _ (List.getElem_mem h), by
      cases hh : hasS (l.take k) l[k] with
      | false => rfl
      | true =>
        obtain ⟨j, hj, e⟩ := List.getElem_of_mem ((hasS_iff _ _).1 hh)
        have hj2 : j < k := by have := hj; rw [List.length_take] at this; omega
        rw [List.getElem_take] at e
        have h3 := htr (k - j - 1) j (by omega)
        simp only [show j + (k - j - 1) + 1 = k by omega] at h3
        rw [e, lessB_irr] at h3; cases h3⟩
    have s : srtS l = true := by
      rw [srtS, List.all_eq_true]
      intro k hk
      have hk := List.mem_range.1 hk
      simp only [List.getD, List.getElem?_eq_getElem (show k + 1 < l.length by omega), List.getElem?_eq_getElem (show k < l.length by omega), Option.getD_some]
      cases h5 : lessB l[k + 1] l[k] with
      | false => rfl
      | true => rw [lessB_asymm (hlt k (by omega))] at h5; cases h5
    rw [u, s]; rfl
  | false =>
    symm
    cases hq : (unlB l && srtS l) with
    | false => rfl
    | true =>
      rw [Bool.and_eq_true] at hq
      obtain ⟨h1, h2⟩ := hq
      rw [unlB, List.all_eq_true] at h1
      rw [srtS, List.all_eq_true] at h2
      have hn : l.all nameB = true := List.all_eq_true.2 fun x hx => by
        obtain ⟨k, hk, rfl⟩ := List.getElem_of_mem hx
        have h3 := h1 k (List.mem_range.2 hk)
        simp only [List.getD, List.getElem?_eq_getElem hk, Option.getD_some, Bool.and_eq_true] at h3
        exact h3.1
      have hr2 : risS l = true := risS_yes l fun k h => by
        have h3 := h1 (k + 1) (List.mem_range.2 h)
        have h4 := h2 k (List.mem_range.2 (by omega))
        simp only [List.getD, List.getElem?_eq_getElem h, List.getElem?_eq_getElem (show k < l.length by omega), Option.getD_some, Bool.and_eq_true, Bool.not_eq_true'] at h3 h4
        cases h5 : lessB l[k] l[k + 1] with
        | true => rfl
        | false =>
          have e := lessB_tri h5 h4
          have : hasS (l.take (k + 1)) l[k + 1] = true := (hasS_iff _ _).2 (by rw [← e]; exact List.mem_take_iff_getElem.2 ⟨k, by omega, rfl⟩)
          rw [this] at h3; exact absurd h3.2 (by decide)
      rw [hn, hr2] at hr; cases hr
set_option maxRecDepth 100000 in
theorem tagged_any (w : World) (s : Txs) (h : Txs.At w 0 w.heap.size s) :
    Calls Tryz.prog 181 #[s.val] w fun e w' => e = .returned (.bool (tagB s.xs)) ∧ Ext w w' := by
  have hr : ∀ W, Ext w W → Rd W 0 W.heap.size s.A (s.xs.map Value.string) := fun W hW => by rw [← strs_flat]; exact Rd.at h.rd hW (Nat.le_refl _)
  have HU := Lib.hid (fun W (hW : Ext w W) => unlike_any W s.A s.n s.c s.xs h.len h.le h.cap (hr W hW) h.all)
  have HSo := Lib.hid (fun W (hW : Ext w W) => sorted_any W s.A s.n s.c s.xs h.len (Nat.le_trans (Nat.le_trans h.le h.cap) (by decide)) (hr W hW))
  have HV := Lib.hid (tag_is s.xs)
  rw [← h.len] at HV
  generalize tagB s.xs = V at *
  generalize unlB s.xs = U at *
  generalize srtS s.xs = R at *
  clear h hr
  obtain ⟨A, n, c, xs⟩ := s
  simp only [Sl.val] at *
  by_cases h4 : n ≤ 4
  · have q4 : decide ((n : Int) ≤ 4) = true := by simp; omega
    rw [decide_eq_true h4] at HV
    cases U with
    | false =>
      obtain rfl : V = false := HV.out
      go_enter Tryz.func181, Tryz.ntmps181
      go_wp2_with fail
      refine (HU.out _ (Ext.refl _)).mono ?_
      rintro e w2 ⟨rfl, e2⟩
      go_wp2_with fail
      go_ret
      exact ⟨rfl, e2⟩
    | true =>
      obtain rfl : V = R := HV.out
      go_enter Tryz.func181, Tryz.ntmps181
      go_wp2_with fail
      refine (HU.out _ (Ext.refl _)).mono ?_
      rintro e w2 ⟨rfl, e2⟩
      have HE := Lib.hid e2
      clear e2
      go_wp2_with fail
      refine (HSo.out _ HE.out).mono ?_
      rintro e w3 ⟨rfl, e3⟩
      go_wp2_with fail
      go_ret
      exact ⟨by simp, HE.out.trans e3⟩
  · have q4 : decide ((n : Int) ≤ 4) = false := by simp; omega
    rw [decide_eq_false h4] at HV
    obtain rfl : V = false := HV.out
    go_enter Tryz.func181, Tryz.ntmps181
    go_wp2_with fail
    go_ret
    exact ⟨by simp, Ext.refl _⟩
end Go.Proofs.YtckaneapjpiocaaGreatDoor
