/- The texts Rr2, Rr3, Rl, Bko, Rr4 in one file. -/
import Derived.Test.YtckaneapjpiocaaGreatDoorM12
import Derived.Test.YtckaneapjpiocaaGreatDoorM8
import Derived.Test.YtckaneapjpiocaaGreatDoorM10
import Derived.Test.YtckaneapjpiocaaGreatDoorM2
import Derived.Test.YtckaneapjpiocaaGreatDoorM11
namespace Go.Proofs.YtckaneapjpiocaaGreatDoor
open Go.RowKit Go.Maps Go.Sort Go.Shelf
set_option linter.unusedVariables false
set_option linter.unusedSimpArgs false
attribute [local go_sem] Oper.semAt_some
def prO : List ByteArray → List Prp
  | a :: b :: l => ⟨a, b⟩ :: prO l
  | _ => []
theorem prO_len : ∀ l : List ByteArray, (prO l).length = l.length / 2
  | [] => rfl
  | [_] => by simp [prO]
  | a :: b :: l => by rw [prO, List.length_cons, prO_len l, List.length_cons, List.length_cons]; omega
theorem prO_at : ∀ (l : List ByteArray) (k : Nat) (h : 2 * k + 1 < l.length), (prO l)[k]? = some ⟨l[2 * k], l[2 * k + 1]⟩
  | a :: b :: l, 0, _ => rfl
  | a :: b :: l, k + 1, h => by
    rw [prO, List.getElem?_cons_succ, prO_at l k (by simp only [List.length_cons] at h; omega)]
    rfl
  | [], k, h => by simp at h
  | [_], k, h => by simp at h
theorem prO_mem : ∀ (l : List ByteArray) (x : Prp), x ∈ prO l → x.name ∈ l ∧ x.value ∈ l
  | a :: b :: l, x, h => by
    rw [prO, List.mem_cons] at h
    rcases h with rfl | h
    · exact ⟨by simp, by simp⟩
    · obtain ⟨h1, h2⟩ := prO_mem l x h
      exact ⟨by simp [h1], by simp [h2]⟩
  | [], x, h => by cases h
  | [_], x, h => by cases h
theorem prO_take (l : List ByteArray) (k : Nat) (h : 2 * k + 1 < l.length) : (prO l).take (k + 1) = (prO l).take k ++ [⟨l[2 * k], l[2 * k + 1]⟩] := by
  rw [List.take_add_one, prO_at l k h]; rfl
theorem prps_snoc (l : List Prp) (x : Prp) : prps (l ++ [x]) = prps l ++ x.cells := by simp [prps]
def PrdO (w : World) (ts : List ByteArray) (e : Ending) (w' : World) : Prop := Ext w w' ∧ ((prE (prO ts) = 0 ∧ ∃ A' c', e = .returned (.tuple #[.slice A' (prO ts).length c', .int .i64 0]) ∧ w'.ownsRow w.heap.size 160 2 (.slice A' (prO ts).length c') (prO ts).length (prps (prO ts))) ∨
  (prE (prO ts) ≠ 0 ∧ e = .returned (.tuple #[.slice none 0 0, .int .i64 (prE (prO ts))])))
set_option maxRecDepth 100000 in
set_option maxHeartbeats 4000000 in
theorem pread_any (w : World) (A : Option Addr) (n c : Nat) (ts : List ByteArray) (hn : n = ts.length) (hev : n % 2 = 0) (hnc : n ≤ c) (hr : Rd w 0 w.heap.size A (strV ts)) (hN : n ≤ 100000) (hs : ∀ s ∈ ts, s.size ≤ 65536) :
    Calls Tryz.prog 128 #[.slice A n c] w (PrdO w ts) := by
  obtain ⟨i0, hi0, hz0, hz1, hz2⟩ := info_parts infoP
  have HR := Lib.hid hr
  have Hn := Lib.hid hn
  have HS := Lib.hid hs
  have he : ((n : Int) % 2 == 1) = false := by
    have : (n : Int) % 2 = 0 := by omega
    rw [this]; rfl
  have hN2 := Lib.hid (show chN 2 n = n / 2 by rw [chN]; omega)
  have HC := Lib.hid (fun W (A' : Option Addr) (m c' : Nat) (hm : m = (prO ts).length) (h : Rd W 0 W.heap.size A' (prps (prO ts))) => pcheck_any W A' m c' (prO ts) hm (by rw [hm, prO_len]; omega) h (fun x hx => by
    obtain ⟨h1, h2⟩ := prO_mem ts x hx
    have := hs _ h1
    have := hs _ h2
    omega))
  clear hr hs hn
  refine (callsIn_wide (n := 1)).1 (callsIn_of_wp_marks Tryz.func128 rfl trivial ?_ rfl)
  simp only [Tryz.ntmps128, List.size_toArray, List.length_cons, List.length_nil, Nat.reduceAdd, Nat.reduceSub, Array.replicate_succ, Array.replicate_zero, List.push_toArray, List.append_toArray, List.nil_append, List.cons_append]
  refine wpIn_wide.2 ?_
  go_upto_region 4 with fail
  generalize hwH : World.alloc w _ = w1
  have HH := Lib.hid (((Heap.start w).row0 (e := 160) (size := 2)).allocE hwH)
  clear hwH
  obtain ⟨tb, htb⟩ : ∃ b, b = w.heap.size := ⟨_, rfl⟩
  rw [← htb] at HH ⊢
  clear htb he
  go_wp2_with fail
  refine (chunk_str _ A n c 2 (by decide) (by decide)).mono ?_
  rintro e w2 ⟨rfl, rfl⟩
  generalize hwH : World.alloc (World.alloc w1 _) _ = w2
  replace HH := Lib.hid ((HH.out.alloc _ _).allocE hwH)
  clear hwH
  simp only [World.size_alloc] at HH
  obtain ⟨bs, hbs⟩ : ∃ b, b = w1.heap.size := ⟨_, rfl⟩
  obtain ⟨bm, hbm⟩ : ∃ b, b = w1.heap.size + 1 := ⟨_, rfl⟩
  rw [← hbm, ← hbs] at HH ⊢
  clear hbs hbm
  go_wp2_with fail
  refine rangeH (P := Tryz.prog) (α := Nat) (N := chN 2 n) (w0 := w) (gf := 208) (lb := #[.pointer (some ⟨bs, 0, none⟩), .pointer (some ⟨bm, 0, none⟩)]) (encs := fun k => #[chV A 2 n k]) (ok := fun pre k => k = pre.length) (S := fun xs => xs = List.range (chN 2 n))
    (fun pre L => ∃ (A' : Option Addr) (c' : Nat), L = [.box bm [.int .i64 2], .box bs [.slice A n c], .box tb [.slice A' pre.length c'], .row 160 2 (.slice A' pre.length c') pre.length (prps ((prO ts).take pre.length))]) false rfl
    (enters_of Tryz.func208 (by kernel_rfl) rfl) (fun _ => rfl) (fun h => by cases h) (chunk_seqS (by decide) (by decide) (by omega) hnc ?cells) ⟨none, 0, rfl⟩ HH.out ?a1 ?assign ?body ?done
  case cells =>
    rintro pre L ⟨A', c', rfl⟩ W x y HW
    exact ⟨(HW.boxAt 3 rfl).cell 0 _ rfl, (HW.boxAt 2 rfl).cell 0 _ rfl⟩
  case assign =>
    intro l k W K hK
    simp only [chV]
    gi_wp2
    exact hK
  case body =>
    clear HH
    rintro l pre k y1 y2 y3 L W hlen hk ⟨A', c', rfl⟩ H
    have HKp := Lib.hid (show (pre ++ [k]).length = k + 1 by rw [List.length_append, ← hk]; rfl)
    rw [← hk] at hlen H
    clear hk
    rw [hN2.out] at hlen
    have HH := Lib.hid H
    clear H
    have hk2 : 2 * k + 1 < ts.length := by rw [← Hn.out]; omega
    have HT := Lib.hid (prO_take ts k hk2)
    have hx0 : (strV ts)[2 * k]? = some (.string ts[2 * k]) := by rw [List.getElem?_map, List.getElem?_eq_getElem (show 2 * k < ts.length by omega)]; rfl
    have hx1 : (strV ts)[2 * k + 1]? = some (.string ts[2 * k + 1]) := by rw [List.getElem?_map, List.getElem?_eq_getElem hk2]; rfl
    obtain ⟨gb, go, hA, _, hgb, hcl⟩ := HR.out (fun e => by rw [e] at hx0; cases hx0)
    subst hA
    have e0 := hcl _ _ hx0
    have e1 := hcl _ _ hx1
    have HTc := Lib.hid (fun (W : World) (hW : Ext w W) => show W.cell? ⟨gb, go + k * 2, none⟩ = some (.string ts[2 * k]) ∧ W.cell? ⟨gb, go + k * 2 + 1, none⟩ = some (.string ts[2 * k + 1]) from
      ⟨by rw [show go + k * 2 = go + 2 * k by omega]; exact (Below.cell (p := ⟨gb, go + 2 * k, none⟩) hW hgb).trans e0, by rw [show go + k * 2 + 1 = go + (2 * k + 1) by omega]; exact (Below.cell (p := ⟨gb, go + (2 * k + 1), none⟩) hW hgb).trans e1⟩)
    have hmn : min 2 (n - k * 2) = 2 := by have := Hn.out; omega
    clear hx0 hx1 hcl e0 e1
    generalize ts[2 * k] = s0 at *
    generalize ts[2 * k + 1] = s1 at *
    rw [hmn, show ((some ⟨gb, go, none⟩ : Option Addr).map (·.add (k * 2))) = some ⟨gb, go + k * 2, none⟩ by show some (Addr.add ⟨gb, go, none⟩ (k * 2)) = _; rw [add_lit]]
    clear hmn
    refine wpIn_block ?_
    have HHd := Lib.hid HH.out.drew
    clear HH
    refine rgnMIn (fun z => Nat.blt z 10) (S := fun W => W.cell? ⟨tb, 0, none⟩ = some (.slice A' k c') ∧ W.cell? ⟨gb, go + k * 2, none⟩ = some (.string s0) ∧ W.cell? ⟨gb, go + k * 2 + 1, none⟩ = some (.string s1)) (by rintro ⟨_, _, h⟩; cases h.1) rfl (by kernel_rfl) ⟨(HHd.out.boxAt 5 rfl).cell 0 _ rfl, HTc.out _ HHd.out.ext⟩ (fun hHeld => ?_)
    generalize World.drew _ = wd at *
    refine tM 0 8 ?_
    clear hHeld
    refine oneM 8 rfl (by kernel_rfl) (by kernel_rfl) (fun K hK => ?_)
    go_simp
    generalize hwA : World.alloc _ _ = w6
    have HH6 := Lib.hid (HHd.out.allocE hwA)
    clear hwA HHd
    refine hK.out _ _ ⟨(HH6.out.boxAt 6 rfl).cell 0 _ rfl, HTc.out _ HH6.out.ext⟩ (fun hHeld => ?_)
    clear hK K hHeld
    (try simp only [Act.put, lyA, lyB, lyC])
    refine oneM 9 rfl (by kernel_rfl) (by kernel_rfl) (fun K hK => ?_)
    refine sh_app (.tmp 14) (.tmp 22) _ rfl Tryz.underlying41 hi0 hz0 hz1 hz2 rfl (by omega) HH6.out 7 rfl rfl (m := 1) rfl rfl (HH6.out.boxRd 0 rfl) (by simp [Value.oneCell']) (by simp only [maxLen]; omega) (by omega) ?_
    rintro v7 w7 hh7 ⟨A7, c7, rfl⟩
    have HH7 := Lib.hid hh7.tail
    clear hh7 HH6
    refine hK.out _ _ ⟨(HH7.out.boxAt 5 rfl).cell 0 _ rfl, HTc.out _ HH7.out.ext⟩ (fun hHeld => ?_)
    clear hK K hHeld
    (try simp only [Act.put, lyA, lyB, lyC])
    refine freeM 10 rfl (by kernel_rfl) (by kernel_rfl) (by kernel_rfl) (fun K hK => ?_)
    refine sh_store1 HH7.out rfl rfl rfl 5 rfl (Nat.le_of_ble_eq_true rfl) rfl (by kernel_rfl) ?_
    intro w8 hh8
    refine hK.out _ _ ?_; clear hK K; (try simp only [Act.put, lyA, lyB, lyC])
    refine doneM (by kernel_rfl) ?_
    refine ⟨rfl, _, ⟨A7, c7, rfl⟩, ?_⟩
    rw [HKp.out, HT.out, prps_snoc]
    exact hh8
  case done =>
    rintro D y xs L W rfl ⟨A', c', rfl⟩ H
    clear HH
    have HH := Lib.hid H
    clear H
    rw [List.length_range, hN2.out] at HH
    have hpl : (prO ts).length = n / 2 := by rw [prO_len, Hn.out]
    rw [List.take_of_length_le (by omega)] at HH
    have HP := Lib.hid (HC.out W A' (n / 2) c' hpl.symm (HH.out.rowRd 5 rfl |>.m0))
    have HL := Lib.hid hpl
    clear HC hpl
    (try simp only [Exit.inBlock, Exit.then])
    go_wp2_with (first | (refine shl_load1 HH.out rfl rfl rfl 4 rfl rfl (by decide +kernel) ?_))
    refine HP.out.mono ?_
    rintro e w2 ⟨rfl, e2⟩
    replace HH := Lib.hid (HH.out.later e2)
    clear e2 HP
    by_cases hE : prE (prO ts) = 0
    · have HE := Lib.hid hE
      rw [hE]
      clear hE
      go_wp2_with (first | (refine shl_load1 HH.out rfl rfl rfl 4 rfl rfl (by decide +kernel) ?_))
      refine ⟨by simp, .inl ⟨_, _, rfl, run_takeDeferred (HH.out.objAt 1 rfl), ?_⟩⟩
      have H2 := HH.out.putObj 1 rfl (.deferred none)
      refine ⟨_, results_tmp2 rfl _ _ _, H2.ext, .inl ⟨HE.out, A', c', ?_⟩⟩
      rw [HL.out]
      exact ⟨rfl, H2.rowAt 5 rfl⟩
    · have hd : (prE (prO ts) != 0) = true := by simpa using hE
      have HE := Lib.hid hE
      clear hE
      go_wp2_with fail
      refine ⟨by simp, .inl ⟨_, _, rfl, run_takeDeferred (HH.out.objAt 1 rfl), ?_⟩⟩
      exact ⟨_, results_tmp2 rfl _ _ _, (HH.out.putObj 1 rfl (.deferred none)).ext, .inr ⟨HE.out, rfl⟩⟩
open Go.RowKit Go.Maps Go.Sort Go.Shelf
set_option linter.unusedVariables false
set_option linter.unusedSimpArgs false
attribute [local go_sem] Oper.semAt_some
theorem infoBq : (Tryz.prog.info? 183).map (fun i => (i.zero, i.size, i.bytes)) = some (some (.agg #[.int .i64 0, .string .empty]), 2, 24) := by kernel_rfl
def blkP (p : List UInt8) : Blk := ⟨numV (p.take 2), ⟨(p.drop 2).toArray⟩⟩
def prtB (l : List UInt8) (k : Nat) : List UInt8 := (l.drop (k * 18)).take 18
def blkR (l : List UInt8) : List Blk := (List.range (l.length / 18)).map fun k => blkP (prtB l k)
theorem blkR_len (l : List UInt8) : (blkR l).length = l.length / 18 := by simp [blkR]
theorem blkR_take (l : List UInt8) (k : Nat) (h : k < l.length / 18) : (blkR l).take (k + 1) = (blkR l).take k ++ [blkP (prtB l k)] := by
  rw [List.take_add_one]
  have : (blkR l)[k]? = some (blkP (prtB l k)) := by simp [blkR, h]
  rw [this]; rfl
theorem numV_le (l : List UInt8) : 0 ≤ numV l ∧ numV l ≤ 4611686018427387903 := by
  unfold numV
  split
  · omega
  · split
    · omega
    · split <;> omega
theorem blkP_wf (p : List UInt8) (h : p.length ≤ 1000) : (blkP p).wf := by
  have h1 := numV_le (p.take 2)
  refine ⟨by show _ ≤ numV _; omega, by show numV _ ≤ _; omega, ?_⟩
  show (p.drop 2).toArray.size ≤ _
  simp; omega
theorem prtB_len (l : List UInt8) (k : Nat) : (prtB l k).length ≤ 18 := by rw [prtB, List.length_take]; omega
theorem blkR_wf (l : List UInt8) : ∀ x ∈ blkR l, x.wf := by
  intro x hx
  simp only [blkR, List.mem_map] at hx
  obtain ⟨k, _, rfl⟩ := hx
  exact blkP_wf _ (by have := prtB_len l k; omega)
def brdB (l : List UInt8) : Bool := decide (l.length % 18 = 0) && decide (bkE (blkR l) = 0)
def BrdO (w : World) (l : List UInt8) (e : Ending) (w' : World) : Prop := Ext w w' ∧ ((brdB l = true ∧ ∃ A' c', e = .returned (.tuple #[.slice A' (blkR l).length c', .int .i64 0]) ∧ w'.ownsRow w.heap.size 183 2 (.slice A' (blkR l).length c') (blkR l).length (blks (blkR l))) ∨
  (brdB l = false ∧ ∃ E, e = .returned (.tuple #[.slice none 0 0, .int .i64 E]) ∧ E ≠ 0))
set_option maxRecDepth 100000 in
set_option maxHeartbeats 4000000 in
theorem bread_any (w : World) (A : Option Addr) (n c : Nat) (l : List UInt8) (hn : n = l.length) (hnc : n ≤ c) (hr : Rd w 0 w.heap.size A (bytes l)) (hN : n ≤ 100000) :
    Calls Tryz.prog 155 #[.slice A n c] w (BrdO w l) := by
  obtain ⟨i0, hi0, hz0, hz1, hz2⟩ := info_parts infoBq
  obtain ⟨i1, hi1, hx0, hx1, hx2⟩ := info_parts info5
  have Hn := Lib.hid hn
  by_cases he : n % 18 = 0
  · have HR := Lib.hid hr
    have hd : ((n : Int) % 18 != 0) = false := by simp; omega
    have hN2 := Lib.hid (show chN 18 n = n / 18 by rw [chN]; omega)
    have HC := Lib.hid (fun W (A' : Option Addr) (m c' : Nat) (hm : m = (blkR l).length) (h : Rd W 0 W.heap.size A' (blks (blkR l))) => bcheck_any W A' m c' (blkR l) hm (by rw [hm, blkR_len]; omega) h (blkR_wf l))
    have HM := Lib.hid (show l.length % 18 = 0 by rw [← hn]; exact he)
    clear hr hn he
    refine (callsIn_wide (n := 1)).1 (callsIn_of_wp_marks Tryz.func155 rfl trivial ?_ rfl)
    simp only [Tryz.ntmps155, List.size_toArray, List.length_cons, List.length_nil, Nat.reduceAdd, Nat.reduceSub, Array.replicate_succ, Array.replicate_zero, List.push_toArray, List.append_toArray, List.nil_append, List.cons_append]
    refine wpIn_wide.2 ?_
    go_upto_region 4 with fail
    generalize hwH : World.alloc w _ = w1
    have HH := Lib.hid (((Heap.start w).row0 (e := 183) (size := 2)).allocE hwH)
    clear hwH
    obtain ⟨tb, htb⟩ : ∃ b, b = w.heap.size := ⟨_, rfl⟩
    rw [← htb] at HH ⊢
    clear htb hd
    go_wp2_with fail
    refine (chunk_any _ A n c 18 (by decide) (by decide)).mono ?_
    rintro e w2 ⟨rfl, rfl⟩
    generalize hwH : World.alloc (World.alloc w1 _) _ = w2
    replace HH := Lib.hid ((HH.out.alloc _ _).allocE hwH)
    clear hwH
    simp only [World.size_alloc] at HH
    obtain ⟨bs, hbs⟩ : ∃ b, b = w1.heap.size := ⟨_, rfl⟩
    obtain ⟨bm, hbm⟩ : ∃ b, b = w1.heap.size + 1 := ⟨_, rfl⟩
    rw [← hbm, ← hbs] at HH ⊢
    clear hbs hbm
    go_wp2_with fail
    refine rangeH (P := Tryz.prog) (α := Nat) (N := chN 18 n) (w0 := w) (gf := 221) (lb := #[.pointer (some ⟨bs, 0, none⟩), .pointer (some ⟨bm, 0, none⟩)]) (encs := fun k => #[chV A 18 n k]) (ok := fun pre k => k = pre.length) (S := fun xs => xs = List.range (chN 18 n))
      (fun pre L => ∃ (A' : Option Addr) (c' : Nat), L = [.box bm [.int .i64 18], .box bs [.slice A n c], .box tb [.slice A' pre.length c'], .row 183 2 (.slice A' pre.length c') pre.length (blks ((blkR l).take pre.length))]) false rfl
      (enters_of Tryz.func221 (by kernel_rfl) rfl) (fun _ => rfl) (fun h => by cases h) (chunk_seq (by decide) (by decide) (by omega) hnc ?cells) ⟨none, 0, rfl⟩ HH.out ?a1 ?assign ?body ?done
    case cells =>
      rintro pre L ⟨A', c', rfl⟩ W x y HW
      exact ⟨(HW.boxAt 3 rfl).cell 0 _ rfl, (HW.boxAt 2 rfl).cell 0 _ rfl⟩
    case assign =>
      intro l k W K hK
      simp only [chV]
      gi_wp2
      exact hK
    case body =>
      clear HH
      rintro q pre k y1 y2 y3 L W hlen hk ⟨A', c', rfl⟩ H
      have HKp := Lib.hid (show (pre ++ [k]).length = k + 1 by rw [List.length_append, ← hk]; rfl)
      rw [← hk] at hlen H
      clear hk
      rw [hN2.out] at hlen
      have HH := Lib.hid H
      clear H
      have hkl : k < l.length / 18 := by rw [← Hn.out]; exact hlen
      have HT := Lib.hid (blkR_take l k hkl)
      have hpl : (prtB l k).length = 18 := by rw [prtB, List.length_take, List.length_drop]; have := HM.out; omega
      have hmn : min 18 (n - k * 18) = 18 := by have := Hn.out; have := HM.out; omega
      have hpr : Rd W 0 W.heap.size (A.map (·.add (k * 18))) (bytes (prtB l k)) := by
        rw [prtB, ← bytes_take, ← bytes_drop]
        exact ((HH.out.old HR.out).drop _).take _
      rw [hmn]
      generalize A.map (·.add (k * 18)) = Ak at *
      clear hmn
      generalize hP : prtB l k = P at *
      clear hP
      have hs2 := fun W => run_sl_upto (P := Tryz.prog) W 53 5 i1 Tryz.underlying53 hi1 hx1 Ak 18 18 2 2 rfl (by decide)
      have hs3 : ∀ W, (Instr.slice 53 (.slice Ak 18 18) (some (.int .i64 2)) none none).run Tryz.prog W = .ok (.slice (shiftA Ak 18 2 1) 16 16) W := fun W => run_slice_from (P := Tryz.prog) W 53 5 i1 1 Tryz.underlying53 hi1 hx1 Ak 18 18 2 2 rfl (by decide)
      have HNu := Lib.hid (fun W (e : Ext w W) (h : Rd W 0 W.heap.size Ak (bytes P)) => number_any W Ak 2 18 0 W.heap.size (P.take 2) (by rw [List.length_take]; omega) (by decide) (by rw [← bytes_take]; exact h.take 2) (Nat.le_refl _))
      have HCv := Lib.hid (fun W' (e : Ext W W') => run_conv_str (P := Tryz.prog) W' 53 9 5 Tryz.underlying53 Tryz.underlying5 Tryz.underlying9 0 W'.heap.size (shiftA Ak 18 2 1) 16 16 (P.drop 2) (by rw [List.length_drop]; omega) (by
        have hl1 : (bytes P).length = 18 * 1 := by rw [bytes_length]; omega
        have h1 := (Rd.at hpr e (Nat.le_refl _)).from_ hl1 (c := 18) (k := 2) (by omega) (by omega)
        rwa [Nat.mul_one, bytes_drop] at h1))
      have HNu2 := Lib.hid (number_any W Ak 2 18 0 W.heap.size (P.take 2) (by rw [List.length_take]; omega) (by decide) (by rw [← bytes_take]; exact hpr.take 2) (Nat.le_refl _))
      clear HNu hpr
      have HBp := Lib.hid (show blkP P = ⟨numV (P.take 2), ⟨(P.drop 2).toArray⟩⟩ from rfl)
      generalize numV (P.take 2) = nv at *
      generalize numE (P.take 2) = ne at *
      refine wpIn_block ?_
      refine wpIn_seq ?_
      refine regionIn (by rintro ⟨_, _, h⟩; cases h.1) rfl ?_
      go_wp2_with fail
      refine HNu2.out.mono ?_
      rintro e w4 ⟨rfl, e4⟩
      replace HH := Lib.hid (HH.out.later e4)
      replace HCv := Lib.hid (fun W' (e : Ext w4 W') => HCv.out W' (e4.trans e))
      clear HNu2 e4
      go_wp2_with fail
      (try simp only [Exit.then])
      have HHd := Lib.hid HH.out.drew
      replace HCv := Lib.hid (fun W' (e : Ext w4.drew W') => HCv.out W' ((Ext.drew (Ext.refl _)).trans e))
      clear HH hs2
      refine rgnMIn (fun z => Nat.blt z 8) (S := fun W => W.cell? ⟨tb, 0, none⟩ = some (.slice A' k c') ∧ (convert 53 9 (.slice (shiftA Ak 18 2 1) 16 16)).run Tryz.prog W = .ok (.string ⟨(P.drop 2).toArray⟩) W) (by rintro ⟨_, _, h⟩; cases h.1) rfl (by kernel_rfl) ⟨(HHd.out.boxAt 5 rfl).cell 0 _ rfl, HCv.out _ (Ext.refl _)⟩ (fun hHeld => ?_)
      generalize World.drew _ = wd at *
      refine tM 0 6 ?_
      clear hHeld
      refine oneM 6 rfl (by kernel_rfl) (by kernel_rfl) (fun K hK => ?_)
      go_simp
      generalize hwA : World.alloc _ _ = w6
      have HH6 := Lib.hid (HHd.out.allocE hwA)
      replace HCv := Lib.hid (HCv.out w6 (by rw [← hwA]; exact (Ext.refl _).alloc _))
      clear hwA HHd
      refine hK.out _ _ ⟨(HH6.out.boxAt 6 rfl).cell 0 _ rfl, HCv.out⟩ (fun hHeld => ?_)
      clear hK K hHeld
      (try simp only [Act.put, lyA, lyB, lyC])
      refine freeM 7 rfl (by kernel_rfl) (by kernel_rfl) (by kernel_rfl) (fun K hK => ?_)
      refine sh_app (.tmp 22) (.tmp 28) _ rfl Tryz.underlying47 hi0 hz0 hz1 hz2 rfl (by omega) HH6.out 7 rfl rfl (m := 1) rfl rfl (HH6.out.boxRd 0 rfl) (by simp [Value.oneCell']) (by simp only [maxLen]; omega) (by omega) ?_
      rintro v7 w7 hh7 ⟨A7, c7, rfl⟩
      have HH7 := Lib.hid hh7.tail
      clear hh7 HH6
      refine hK.out _ _ ?_; clear hK K; (try simp only [Act.put, lyA, lyB, lyC])
      refine freeM 8 rfl (by kernel_rfl) (by kernel_rfl) (by kernel_rfl) (fun K hK => ?_)
      refine sh_store1 HH7.out rfl rfl rfl 5 rfl (Nat.le_of_ble_eq_true rfl) rfl (by kernel_rfl) ?_
      intro w8 hh8
      refine hK.out _ _ ?_; clear hK K; (try simp only [Act.put, lyA, lyB, lyC])
      refine doneM (by kernel_rfl) ?_
      refine ⟨rfl, _, ⟨A7, c7, rfl⟩, ?_⟩
      rw [HKp.out, HT.out, blks_append, HBp.out]
      exact hh8
    case done =>
      rintro D y xs L W rfl ⟨A', c', rfl⟩ H
      clear HH
      have HH := Lib.hid H
      clear H
      rw [List.length_range, hN2.out] at HH
      have hpl : (blkR l).length = n / 18 := by rw [blkR_len, Hn.out]
      rw [List.take_of_length_le (by omega)] at HH
      have HP := Lib.hid (HC.out W A' (n / 18) c' hpl.symm (HH.out.rowRd 5 rfl |>.m0))
      have HL := Lib.hid hpl
      clear HC hpl
      (try simp only [Exit.inBlock, Exit.then])
      go_wp2_with (first | (refine shl_load1 HH.out rfl rfl rfl 4 rfl rfl (by decide +kernel) ?_))
      refine HP.out.mono ?_
      rintro e w2 ⟨rfl, e2⟩
      replace HH := Lib.hid (HH.out.later e2)
      clear e2 HP
      by_cases hE : bkE (blkR l) = 0
      · have HE := Lib.hid (show brdB l = true by rw [brdB, HM.out, hE]; rfl)
        rw [hE]
        clear hE
        go_wp2_with (first | (refine shl_load1 HH.out rfl rfl rfl 4 rfl rfl (by decide +kernel) ?_))
        refine ⟨by simp, .inl ⟨_, _, rfl, run_takeDeferred (HH.out.objAt 1 rfl), ?_⟩⟩
        have H2 := HH.out.putObj 1 rfl (.deferred none)
        refine ⟨_, results_tmp2 rfl _ _ _, H2.ext, .inl ⟨HE.out, A', c', ?_⟩⟩
        rw [HL.out]
        exact ⟨rfl, H2.rowAt 5 rfl⟩
      · have hd : (bkE (blkR l) != 0) = true := by simpa using hE
        have HE := Lib.hid (show brdB l = false by rw [brdB, decide_eq_false hE, Bool.and_false])
        have HE2 := Lib.hid hE
        clear hE
        go_wp2_with fail
        refine ⟨by simp, .inl ⟨_, _, rfl, run_takeDeferred (HH.out.objAt 1 rfl), ?_⟩⟩
        exact ⟨_, results_tmp2 rfl _ _ _, (HH.out.putObj 1 rfl (.deferred none)).ext, .inr ⟨HE.out, _, rfl, HE2.out⟩⟩
  · have hd : ((n : Int) % 18 != 0) = true := by simp; omega
    have HB := Lib.hid (show brdB l = false by rw [brdB, decide_eq_false (by rw [← hn]; exact he)]; rfl)
    clear hr hn he
    go_enter Tryz.func155, Tryz.ntmps155
    go_wp2_with fail
    go_ret2
    exact ⟨Ext.refl _, .inr ⟨HB.out, _, rfl, by decide⟩⟩
open Go.RowKit
set_option linter.unusedVariables false
section
variable {P : Program} {w : World} {o' : Oper} {a : Act}
theorem rl_run {t : TypeId} {x : Operand} {b o n : Nat} {cs : List Value} (hc : ∀ j u, cs[j]? = some u → w.cell? ⟨b, o + j, none⟩ = some u) (hn : cs.length = n) (hs : (P.info? t).map (·.size) = some n) (hk : rowK P t = some true) (ho : o'.op = .load t x) (hx : a.eval x = .pointer (some ⟨b, o, none⟩)) :
    (execOp a.eval o').run P w = .ok (.value (.agg cs.toArray)) w := by
  subst hn
  have hc := run_loadCells_list (P := P) w ⟨b, o, none⟩ cs (fun j u hu => by rw [add_lit]; exact hc j u hu)
  unfold execOp
  simp [ho, hx, Instr.loadAt, Instr.sureAddr, loadVar, run_isAgg_of hk, sizeOf_run hs, hc]
variable {ops : Array Oper} {rest : List Oper} {Q : Exit → Act → World → Prop}
theorem rl_load {t : TypeId} {x : Operand} {b o n : Nat} {cs : List Value} (hc : ∀ j u, cs[j]? = some u → w.cell? ⟨b, o + j, none⟩ = some u) (hn : cs.length = n) (hs : (P.info? t).map (·.size) = some n) (hk : rowK P t = some true) (ho : o'.op = .load t x) (hgd : o'.guard = none) (hx : a.eval x = .pointer (some ⟨b, o, none⟩))
    (k : wpList P ops Q rest (a.put o'.dst (.agg cs.toArray)) w) : wpList P ops Q (o' :: rest) a w :=
  wpList_plain hgd fun K hK => by
    unfold Oper.wp
    rw [rl_run hc hn hs hk ho hx]
    exact hK _ _ k
end
open Go.RowKit Go.Maps Go.Sort Go.Shelf
set_option linter.unusedVariables false
set_option linter.unusedSimpArgs false
theorem blkO_take (xs : List Blk) (k : Nat) (h : k < xs.length) : blkO (xs.take (k + 1)) = blkO (xs.take k) ++ (puts xs[k].index 2 ++ xs[k].data.data.toList) := by
  rw [List.take_succ_eq_append_getElem h, blkO, List.flatMap_append]; simp [blkO]
theorem sizeBlk : (Tryz.prog.info? 183).map (·.size) = some 2 := by kernel_rfl
theorem conv_bytes (W : World) (s : ByteArray) : ∃ c W', (convert 9 53 (.string s)).run Tryz.prog W = .ok (.slice (some ⟨W.heap.size, 0, none⟩) s.size c) W' ∧ Ext W W' ∧ Rd W' W.heap.size W'.heap.size (some ⟨W.heap.size, 0, none⟩) (bytes s.data.toList) := by
  refine ⟨_, _, run_bytes_of_string (P := Tryz.prog) W 9 53 5 s Tryz.underlying9 Tryz.underlying53 Tryz.underlying5, Ext.alloc (Ext.drew (Ext.refl W)) _, ?_⟩
  have h := rd_bytesRow W.drew s (grownCap W s.size 0 5) 5 ((bytesRow s (grownCap W s.size 0 5)).size, (bytesRow s (grownCap W s.size 0 5)).size + 1)
  exact h.more (Nat.le_refl _) (by simp)
set_option maxRecDepth 100000 in
set_option maxHeartbeats 8000000 in
theorem bocts_any (w : World) (A : Option Addr) (n c : Nat) (xs : List Blk) (hn : n = xs.length) (hr : Rd w 0 w.heap.size A (blks xs)) (hwf : ∀ x ∈ xs, x.wf) (hE : bkE xs = 0) :
    Calls Tryz.prog 91 #[.slice A n c] w fun e w' => ∃ v, e = .returned (.tuple #[v, .int .i64 0]) ∧ w'.ownsRow w.heap.size 5 1 v (blkO xs).length (bytes (blkO xs)) ∧ Ext w w' := by
  obtain ⟨hm, h16⟩ := bk_small xs hE
  have hm9 : n ≤ 1024 := by omega
  have HC := Lib.hid (bcheck_any w A n c xs hn (by omega) hr hwf)
  rw [hE] at HC
  have Hn := Lib.hid hn
  have HR := Lib.hid hr
  have H16 := Lib.hid h16
  have HW := Lib.hid hwf
  have HL := Lib.hid (fun k => show (blkO (xs.take k)).length ≤ 18432 by
    rw [blkO_len _ fun x hx => H16.out x (List.mem_of_mem_take hx), List.length_take]; omega)
  clear hn hr hwf h16 hm hE
  go_enter Tryz.func91, Tryz.ntmps91
  go_wp2_with fail
  refine HC.out.mono ?_
  rintro e w1 ⟨rfl, e1⟩
  go_upto_region 6 with fail
  have HH := Lib.hid (show Heap w [.row 5 1 (.slice none 0 0) 0 (bytes [])] w1 from ((Heap.start w).later e1).row0)
  clear e1 HC
  go_loopw [5, 7, 15] (fun v _ i wr => ∃ k : Nat, k ≤ n ∧ i = .int .i64 k ∧ (∃ vA vc m, v = .slice vA m vc ∧ Hid (m = (blkO (xs.take k)).length) ∧ Hid (Heap w [.row 5 1 (.slice vA m vc) m (bytes (blkO (xs.take k)))] wr))) (fun _ _ i _ => n - (intOf i).toNat)
  case atStart => exact ⟨0, Nat.zero_le _, rfl, _, _, _, rfl, Lib.hid rfl, HH⟩
  case round =>
    clear HH
    obtain ⟨k, hk, rfl, vA, vc, m, rfl, Hm, HH⟩ := hrel
    by_cases hlt : k < n
    · have l1 : k < xs.length := by rw [← Hn.out]; exact hlt
      obtain ⟨b1, o1, rfl, _, hb1, g0, g1⟩ := rd_blk (HR.out.ext HH.out.ext (Nat.le_refl _)) l1
      have HS := Lib.hid (blkO_take xs k l1)
      have hL1 := HL.out k
      have hL2 := HL.out (k + 1)
      have hwk := HW.out _ (List.getElem_mem l1)
      have hdk := H16.out _ (List.getElem_mem l1)
      generalize blkO (xs.take k) = Y at *
      obtain ⟨Z, hZ⟩ : ∃ Z, Z = blkO (xs.take (k + 1)) := ⟨_, rfl⟩
      rw [← hZ] at HS hL2
      have HZ := Lib.hid hZ
      clear hZ
      generalize xs[k] = x at *
      obtain ⟨ix, d⟩ := x
      dsimp only at g0 g1 hwk hdk HS
      have Hdk := Lib.hid hdk
      have HIx := Lib.hid hwk
      clear hdk hwk
      go_upto_region 8 with (refine shl_store (HH.out.alloc _ _) sizeBlk rfl rfl rfl rfl 0 rfl rfl rfl rfl ?_; clear HH; intro wS HHS; have HH := Lib.hid HHS; clear HHS)
      have HHd := Lib.hid (show Heap w [.box wr.heap.size [.int .i64 ix, .string d], .row 5 1 (.slice vA m vc) m (bytes Y)] (World.drew wS) from HH.out.drew)
      clear HH g0 g1
      generalize wr.heap.size = xb at *
      refine wp_region_held_drew (S := Heap w [.box xb [.int .i64 ix, .string d]]) (by kernel_rfl) (HHd.out.only 0 rfl) (fun hHeld => ?_)
      generalize World.drew _ = wd at *
      refine tW 0 2 ?_
      refine tG 2 rfl (fun wT hST => sh_run_load1 hST rfl rfl 0 rfl rfl (by kernel_rfl)) hHeld ?_; (try simp only [Act.put, lyA, lyB, lyC])
      refine tW 4 1 ?_
      refine tG 5 rfl (fun wT hST => sh_run_load1 hST rfl rfl 0 rfl rfl (by kernel_rfl)) hHeld ?_; (try simp only [Act.put, lyA, lyB, lyC])
      clear hHeld
      refine twoH 3 6 rfl rfl (by kernel_rfl) (by kernel_rfl) (by kernel_rfl) (fun K hK => ?_) (fun K hK => ?_)
      · go_simp; refine (put_any ix _ 2 (by omega) rfl _ HIx.out.1 HIx.out.2.1).mono ?_; rintro e w3 ⟨vw3, rfl, hownw3, ew3⟩; obtain ⟨Aw3, cw3, rfl, _, _, _⟩ := own_form hownw3; have HH3 := Lib.hid ((HHd).out.addRow ew3 hownw3); clear HHd hownw3 ew3; go_wp2_with fail
        refine hK.out _ _ ((HH3).out.only 1 rfl) (fun hHeld => ?_); clear hK K; (try simp only [Act.put, lyA, lyB, lyC])
        clear hHeld
        refine oS 6 (fun K hK => ?_)
        go_simp
        obtain ⟨c6, w4, hcv, e4, hr4⟩ := conv_bytes w3 d
        rw [hcv]
        have HH4 := Lib.hid (HH3.out.addRd e4 hr4 (Nat.le_refl _))
        clear hcv hr4 e4 HH3
        refine hK.out _ _ ((HH4).out.only 2 rfl) (fun hHeld => ?_); clear hK K; (try simp only [Act.put, lyA, lyB, lyC])
        clear hHeld; refine oS 7 (fun K hK => ?_); go_simp; generalize hwA : World.alloc _ _ = w7; have HH7 := Lib.hid ((HH4).out.allocE hwA); clear hwA HH4; refine hK.out _ _ ((HH7).out.only 3 rfl) (fun hHeld => ?_); clear hK K; (try simp only [Act.put, lyA, lyB, lyC]); clear hHeld; refine oS 8 (fun K hK => ?_); go_simp; refine (join_any w7 _ 3 3 [⟨vA, m, vc, Y⟩, ⟨Aw3, 2, cw3, puts ix 2⟩, ⟨_, d.size, c6, d.data.toList⟩] rfl ((HH7.out.boxRd 0 rfl).m0) (fun x hx => (by simp only [List.mem_cons, List.not_mem_nil, or_false] at hx; rcases hx with rfl | rfl | rfl; exact ⟨Hm.out, (HH7.out.rowRd 4 rfl).m0⟩; exact ⟨(puts_length _ _).symm, (HH7.out.rowRd 2 rfl).m0⟩; exact ⟨(len_data _).symm, (HH7.out.rdAt 1 rfl).m0⟩)) (by omega) (by have q := Hdk.out; have q2 := len_data d; simp only [catL, List.flatMap_cons, List.flatMap_nil, List.length_append, puts_length, List.length_nil]; omega)).mono ?_; rintro e w8 ⟨v8, rfl, hown8, e8⟩; rw [show catL [⟨vA, m, vc, Y⟩, ⟨Aw3, 2, cw3, puts ix 2⟩, ⟨_, d.size, c6, d.data.toList⟩] = Z from (by rw [HS.out]; simp [catL])] at hown8; obtain ⟨A8, c8, rfl, _, _, _⟩ := own_form hown8; have HH8 := Lib.hid (HH7.out.addRow e8 hown8); clear HH7 hown8 e8; go_wp2_with fail; refine hK.out _ _ ((HH8).out.only 4 rfl) (fun hHeld => ?_); clear hK K; (try simp only [Act.put, lyA, lyB, lyC])
        refine tW 9 1 ?_
        refine wpAnyH_done (by kernel_rfl) ?_ _; clear hHeld; go_wp2_with fail; go_roundw; (case rel => refine ⟨k + 1, by omega, by go_num, A8, c8, _, rfl, Lib.hid (congrArg List.length HZ.out), (by rw [← HZ.out]; exact Lib.hid (HH8.out.only 0 rfl))⟩); (case measure => simp [intOf]; omega)
      · go_simp
        obtain ⟨c6, w4, hcv, e4, hr4⟩ := conv_bytes wd d
        rw [hcv]
        have HH4 := Lib.hid (HHd.out.addRd e4 hr4 (Nat.le_refl _))
        clear hcv hr4 e4 HHd
        refine hK.out _ _ ((HH4).out.only 1 rfl) (fun hHeld => ?_); clear hK K; (try simp only [Act.put, lyA, lyB, lyC])
        clear hHeld
        refine oS 3 (fun K hK => ?_)
        go_simp; refine (put_any ix _ 2 (by omega) rfl _ HIx.out.1 HIx.out.2.1).mono ?_; rintro e w3 ⟨vw3, rfl, hownw3, ew3⟩; obtain ⟨Aw3, cw3, rfl, _, _, _⟩ := own_form hownw3; have HH5 := Lib.hid ((HH4).out.addRow ew3 hownw3); clear HH4 hownw3 ew3; go_wp2_with fail
        refine hK.out _ _ ((HH5).out.only 2 rfl) (fun hHeld => ?_); clear hK K; (try simp only [Act.put, lyA, lyB, lyC])
        clear hHeld; refine oS 7 (fun K hK => ?_); go_simp; generalize hwA : World.alloc _ _ = w7; have HH7 := Lib.hid ((HH5).out.allocE hwA); clear hwA HH5; refine hK.out _ _ ((HH7).out.only 3 rfl) (fun hHeld => ?_); clear hK K; (try simp only [Act.put, lyA, lyB, lyC]); clear hHeld; refine oS 8 (fun K hK => ?_); go_simp; refine (join_any w7 _ 3 3 [⟨vA, m, vc, Y⟩, ⟨Aw3, 2, cw3, puts ix 2⟩, ⟨_, d.size, c6, d.data.toList⟩] rfl ((HH7.out.boxRd 0 rfl).m0) (fun x hx => (by simp only [List.mem_cons, List.not_mem_nil, or_false] at hx; rcases hx with rfl | rfl | rfl; exact ⟨Hm.out, (HH7.out.rowRd 4 rfl).m0⟩; exact ⟨(puts_length _ _).symm, (HH7.out.rowRd 1 rfl).m0⟩; exact ⟨(len_data _).symm, (HH7.out.rdAt 2 rfl).m0⟩)) (by omega) (by have q := Hdk.out; have q2 := len_data d; simp only [catL, List.flatMap_cons, List.flatMap_nil, List.length_append, puts_length, List.length_nil]; omega)).mono ?_; rintro e w8 ⟨v8, rfl, hown8, e8⟩; rw [show catL [⟨vA, m, vc, Y⟩, ⟨Aw3, 2, cw3, puts ix 2⟩, ⟨_, d.size, c6, d.data.toList⟩] = Z from (by rw [HS.out]; simp [catL])] at hown8; obtain ⟨A8, c8, rfl, _, _, _⟩ := own_form hown8; have HH8 := Lib.hid (HH7.out.addRow e8 hown8); clear HH7 hown8 e8; go_wp2_with fail; refine hK.out _ _ ((HH8).out.only 4 rfl) (fun hHeld => ?_); clear hK K; (try simp only [Act.put, lyA, lyB, lyC])
        refine tW 9 1 ?_
        refine wpAnyH_done (by kernel_rfl) ?_ _; clear hHeld; go_wp2_with fail; go_roundw; (case rel => refine ⟨k + 1, by omega, by go_num, A8, c8, _, rfl, Lib.hid (congrArg List.length HZ.out), (by rw [← HZ.out]; exact Lib.hid (HH8.out.only 0 rfl))⟩); (case measure => simp [intOf]; omega)
    · obtain rfl : k = n := by omega
      have ht : xs.take k = xs := List.take_of_length_le (by rw [← Hn.out]; exact Nat.le_refl _)
      rw [ht] at HH Hm
      clear ht
      have HO := Lib.hid (show wr.ownsRow w.heap.size 5 1 (.slice vA m vc) (blkO xs).length (bytes (blkO xs)) by rw [← Hm.out]; exact HH.out.rowAt 0 rfl)
      go_wp2_with fail
      go_ret2
      exact ⟨.slice vA m vc, rfl, HO.out, HH.out.ext⟩
open Go.RowKit Go.Maps Go.Sort Go.Shelf
set_option linter.unusedVariables false
set_option linter.unusedSimpArgs false
section
variable {w0 w w' : World} {b : Nat} {its : List It} {L : RdL} {ts : List ByteArray} {x : It}
theorem RS.drop (h : RS w0 b (x :: its) L ts w) : RS w0 b its L ts w := by
  obtain ⟨A, c, S, L', h1, h2, h3, h4, h5, h6, H⟩ := h
  refine ⟨A, c, S, L', h1, h2, h3, h4, h5, h6, H.sub' (fun i => if i < 2 then i else i + 1) (fun i j e => ?_) fun i y hy => ?_⟩
  · split at e <;> split at e <;> omega
  · match i with
    | 0 => exact hy
    | 1 => exact hy
    | i + 2 =>
      rw [if_neg (by omega)]
      exact hy
theorem RS.small (h : RS w0 b its L ts w) : ts.length ≤ 1024 ∧ ∀ s ∈ ts, s.size ≤ 65536 := by
  obtain ⟨A, c, S, L', h1, h2, h3, h4, h5, h6, H⟩ := h
  exact ⟨h6, h5⟩
theorem Heap.in2 {x a c : It} (H : Heap w0 (x :: a :: c :: its) w) : Heap w0 (a :: c :: x :: its) w :=
  H.sub' (fun i => if i < 2 then i + 1 else if i = 2 then 0 else i) (fun i j e => by
    (try dsimp only at e)
    split at e <;> split at e <;> (try split at e) <;> (try split at e) <;> omega) fun i y hy => by
    match i with
    | 0 => exact hy
    | 1 => exact hy
    | 2 => exact hy
    | i + 3 =>
      rw [if_neg (by omega), if_neg (by omega)]
      exact hy
theorem RS.open (h : RS w0 b its L ts w) : ∃ A c S L', (A, strV ts) ∈ L' ∧ (∀ q ∈ L, q ∈ L') ∧ Heap w0 (.box b [.slice A ts.length c] :: It.bag S L' :: its) w ∧ ∀ its9 w9, Heap w0 (.box b [.slice A ts.length c] :: It.bag S L' :: its9) w9 → RS w0 b its9 L ts w9 := by
  obtain ⟨A, c, S, L', h1, h2, h3, h4, h5, h6, H⟩ := h
  exact ⟨A, c, S, L', h2, h1, H, fun its9 w9 H9 => ⟨A, c, S, L', h1, h2, h3, h4, h5, h6, H9⟩⟩
theorem RS.push (h : RS w0 b its L ts w) (k : ∀ l, Heap w0 l w → Heap w0 (x :: l) w') : RS w0 b (x :: its) L ts w' := by
  obtain ⟨A, c, S, L', _, _, H, hB⟩ := h.open
  exact hB _ _ (k _ H).in2
end
theorem fV_nn (s : ByteArray) : 0 ≤ fV s ∧ fV s ≤ 4611686018427387903 := by
  unfold fV
  split
  · omega
  · split
    · omega
    · exact numV_le _
theorem rNm_small {m : Int} {ts : List ByteArray} {v : Int} {us : List ByteArray} (h : rNm m ts = some (v, us)) : 0 ≤ v ∧ v ≤ m ∧ us.length + 1 = ts.length ∧ ∀ s ∈ us, s ∈ ts := by
  cases ts with
  | nil => cases h
  | cons s l =>
    rw [rNm] at h
    split at h
    · rename_i h1
      cases h
      exact ⟨(fV_nn s).1, h1.2, rfl, fun x hx => List.mem_cons_of_mem _ hx⟩
    · cases h
def rOwn (ts : List ByteArray) : Option (List Prp × List ByteArray) := (rNm 8 ts).bind fun p =>
  if p.2.length < 2 * p.1.toNat then none else if prE (prO (p.2.take (2 * p.1.toNat))) = 0 then some (prO (p.2.take (2 * p.1.toNat)), p.2.drop (2 * p.1.toNat)) else none
set_option maxRecDepth 100000 in
set_option maxHeartbeats 8000000 in
theorem rown_any {w0 w : World} {b : Nat} {its : List It} {L : RdL} {ts : List ByteArray} (HR : RS w0 b its L ts w) :
    Calls Tryz.prog 106 #[.pointer (some ⟨b, 0, none⟩)] w fun e w' => match rOwn ts with
      | none => e = panE 21 ∧ Heap w0 its w'
      | some (xs, ts') => ∃ A c, e = .returned (.slice A xs.length c) ∧ xs.length ≤ c ∧ c ≤ maxLen ∧ RS w0 b its ((A, prps xs) :: L) ts' w' := by
  obtain ⟨i0, hi0, hz0, hz1, hz2⟩ := info_parts info9
  have HN := Lib.hid (rnum_any HR 8)
  have HS := Lib.hid HR.small
  clear HR
  cases hn : rNm 8 ts with
  | none =>
    have hO : rOwn ts = none := by rw [rOwn, hn]; rfl
    rw [hn] at HN
    simp only [hO]
    clear hO hn
    go_enter Tryz.func106, Tryz.ntmps106
    go_wp2_with fail
    refine HN.out.mono ?_
    rintro e w1 ⟨rfl, h1⟩
    exact ⟨rfl, rfl, h1⟩
  | some p =>
    obtain ⟨v, us⟩ := p
    obtain ⟨v0, v8, hul, hus⟩ := rNm_small hn
    obtain ⟨K, rfl⟩ : ∃ K : Nat, v = (K : Int) := ⟨v.toNat, by omega⟩
    have hO : rOwn ts = if us.length < 2 * K then none else if prE (prO (us.take (2 * K))) = 0 then some (prO (us.take (2 * K)), us.drop (2 * K)) else none := by rw [rOwn, hn]; rfl
    rw [hn] at HN
    have HO := Lib.hid hO
    clear hO hn
    have hK8 : K ≤ 8 := by omega
    have HUs := Lib.hid (show ∀ s ∈ us, s.size ≤ 65536 from fun s h => HS.out.2 s (hus s h))
    have HUl := Lib.hid (show us.length ≤ 1024 by have := HS.out.1; omega)
    clear HS hul hus v0 v8
    generalize rOwn ts = RO at *
    go_enter Tryz.func106, Tryz.ntmps106
    go_wp2_with fail
    refine HN.out.mono ?_
    rintro e w1 ⟨rfl, h1⟩
    have H1 := Lib.hid (h1.push (x := .row 9 1 (.slice none 0 0) 0 []) fun l h => h.row0)
    clear h1 HN
    go_wp2_with fail
    go_loopw [3, 9] (fun l i wr => ∃ k : Nat, k ≤ 2 * K ∧ k ≤ us.length ∧ i = .int .i64 (k : Int) ∧ ∃ A c, l = .slice A k c ∧ Hid (RS w0 b (.row 9 1 (.slice A k c) k (strV (us.take k)) :: its) L (us.drop k) wr)) (fun _ i _ => 2 * K - (intOf i).toNat)
    case atStart => exact ⟨0, Nat.zero_le _, Nat.zero_le _, rfl, _, _, rfl, H1⟩
    case round =>
      clear H1
      obtain ⟨k, hk, hkl, rfl, A, c, rfl, HR⟩ := hrel
      by_cases hlt : k < 2 * K
      · have hkk : (k : Int) < 2 * (K : Int) := by omega
        by_cases hl2 : k < us.length
        · have HT := Lib.hid (rtext_ok (show RS w0 b _ L (us[k] :: us.drop (k + 1)) wr by rw [List.getElem_cons_drop]; exact HR.out))
          have HTk := Lib.hid (show us.take (k + 1) = us.take k ++ [us[k]] from List.take_succ_eq_append_getElem hl2)
          clear HR
          generalize us[k] = s at *
          go_wp2_with fail
          refine HT.out.mono ?_
          rintro e w2 ⟨rfl, h2⟩
          obtain ⟨A', c', S', L', q1, q2, q3, q4, q5, q6, H⟩ := h2
          have HB := Lib.hid (fun (w9 : World) (x : It) (H9 : Heap w0 (.box b [.slice A' (us.drop (k + 1)).length c'] :: It.bag S' L' :: x :: its) w9) => show RS w0 b (x :: its) L (us.drop (k + 1)) w9 from ⟨A', c', S', L', q1, q2, q3, q4, q5, q6, H9⟩)
          have HH := Lib.hid H
          clear H q1 q2 q3 q4 q5 q6 HT
          go_wp2_with (at_builtin; refine shl_app (e := 9) (size := 1) (bytes := 16) (news := [.string s]) (lo := 0) (.tmp 11) (.tmp 14) _ rfl rfl Tryz.underlying109 hi0 hz0 hz1 hz2 rfl (by omega) (HH.out.alloc _ _) 3 rfl rfl (m := 1) rfl rfl ((HH.out.alloc _ _).boxRd 0 rfl).m0 (by simp [Value.oneCell']) (by simp only [maxLen]; omega) (by omega) ?_; intro v7 w7 hh7 h7; obtain ⟨A7, c7, rfl⟩ := h7)
          have H7 := Lib.hid (HB.out _ _ hh7.tail)
          clear hh7 HB HH
          go_roundw
          case rel => exact ⟨k + 1, by omega, by omega, by go_num, _, _, rfl, by rw [HTk.out, strV, List.map_append]; exact H7⟩
          case measure => simp [intOf]; omega
        · have hN := HO.out
          rw [if_pos (by omega)] at hN
          subst hN
          have HT := Lib.hid (rtext_bad (show RS w0 b _ L [] wr by
            have h := HR.out
            rw [List.drop_of_length_le (by omega)] at h
            exact h))
          go_wp2_with fail
          refine HT.out.mono ?_
          rintro e w2 ⟨rfl, h2⟩
          exact ⟨rfl, rfl, h2.tail⟩
      · obtain rfl : k = 2 * K := by omega
        have hN := HO.out
        rw [if_neg (by omega)] at hN
        have HN := Lib.hid hN
        have hlen : (us.take (2 * K)).length = 2 * K := by rw [List.length_take]; omega
        have HP := Lib.hid (show Calls Tryz.prog 128 #[.slice A (2 * K) c] wr (PrdO wr (us.take (2 * K))) from by
          obtain ⟨A', c', S', L', q1, q2, q3, q4, q5, q6, H⟩ := HR.out
          obtain ⟨p1, p2⟩ := own_form2 (H.rowAt 2 rfl)
          exact pread_any wr A (2 * K) c (us.take (2 * K)) hlen.symm (by omega) p1 (H.rowRd 2 rfl).m0 (by omega) (fun s hs => HUs.out s (List.mem_of_mem_take hs)))
        replace HR := Lib.hid HR.out.drop
        clear hlen HO hN
        go_wp2_with fail
        refine HP.out.mono ?_
        rintro e w2 ⟨e2, ⟨hE, A', c', rfl, hown⟩ | ⟨hE, rfl⟩⟩
        · have hN := HN.out
          rw [if_pos hE] at hN
          subst hN
          clear HP HN
          obtain ⟨p1, p2⟩ := own_form2 hown
          replace HR := Lib.hid (HR.out.more (L2 := [(A', prps (prO (us.take (2 * K))))]) e2 (fun q hq => by
            obtain rfl := List.mem_singleton.1 hq
            exact Rd.of_own hown))
          clear hown hE e2
          go_wp2_with fail
          refine (wneed_true _ 21).mono ?_
          rintro e w3 ⟨rfl, rfl⟩
          go_wp2_with fail
          go_ret
          exact ⟨_, _, rfl, p1, p2, HR.out⟩
        · have hN := HN.out
          rw [if_neg hE] at hN
          subst hN
          clear HP HN
          have hd : (prE (prO (us.take (2 * K))) == 0) = false := by simpa using hE
          generalize prE (prO (us.take (2 * K))) = E at *
          clear hE
          go_wp2_with fail
          refine (tneed_false _ 21).mono ?_
          rintro e w3 ⟨rfl, rfl⟩
          exact ⟨rfl, rfl, HR.out.heap.later e2⟩
theorem conv_bytes2 (W : World) (s : ByteArray) (h : s.size ≤ 1000000) : ∃ c W', (convert 9 53 (.string s)).run Tryz.prog W = .ok (.slice (some ⟨W.heap.size, 0, none⟩) s.size c) W' ∧ Ext W W' ∧ Rd W' W.heap.size W'.heap.size (some ⟨W.heap.size, 0, none⟩) (bytes s.data.toList) ∧ s.size ≤ c ∧ c ≤ maxLen := by
  refine ⟨_, _, run_bytes_of_string (P := Tryz.prog) W 9 53 5 s Tryz.underlying9 Tryz.underlying53 Tryz.underlying5, Ext.alloc (Ext.drew (Ext.refl W)) _, ?_, grownCap_ge _ _ _ _, grownCap_le_maxLen _ _ _ _ (by simp only [maxLen]; omega)⟩
  have h := rd_bytesRow W.drew s (grownCap W s.size 0 5) 5 ((bytesRow s (grownCap W s.size 0 5)).size, (bytesRow s (grownCap W s.size 0 5)).size + 1)
  exact h.more (Nat.le_refl _) (by simp)
def rBody : List ByteArray → Option (List Blk × List ByteArray)
  | [] => none
  | s :: l => if brdB s.data.toList = true then some (blkR s.data.toList, l) else none
set_option maxRecDepth 100000 in
set_option maxHeartbeats 8000000 in
theorem rbody_any {w0 w : World} {b : Nat} {its : List It} {L : RdL} {ts : List ByteArray} (HR : RS w0 b its L ts w) :
    Calls Tryz.prog 107 #[.pointer (some ⟨b, 0, none⟩)] w fun e w' => match rBody ts with
      | none => e = panE 21 ∧ Heap w0 its w'
      | some (xs, ts') => ∃ A c, e = .returned (.slice A xs.length c) ∧ xs.length ≤ c ∧ c ≤ maxLen ∧ RS w0 b its ((A, blks xs) :: L) ts' w' := by
  cases ts with
  | nil =>
    have HT := Lib.hid (rtext_bad HR)
    simp only [rBody]
    clear HR
    go_enter Tryz.func107, Tryz.ntmps107
    go_wp2_with fail
    refine HT.out.mono ?_
    rintro e w1 ⟨rfl, h1⟩
    exact ⟨rfl, rfl, h1⟩
  | cons s ts =>
    have HT := Lib.hid (rtext_ok HR)
    have hs := HR.small.2 s (List.mem_cons_self ..)
    have HO := Lib.hid (show rBody (s :: ts) = if brdB s.data.toList = true then some (blkR s.data.toList, ts) else none from rfl)
    generalize rBody (s :: ts) = RO at *
    clear HR
    go_enter Tryz.func107, Tryz.ntmps107
    go_wp2_with fail
    refine HT.out.mono ?_
    rintro e w1 ⟨rfl, h1⟩
    obtain ⟨cc, w2, hcv, e2, hr2, hcc, _⟩ := conv_bytes2 w1 s (by omega)
    have H2 := Lib.hid (h1.later e2)
    have hl : s.size = s.data.toList.length := rfl
    have HB := Lib.hid (bread_any w2 _ s.size cc s.data.toList hl hcc hr2.m0 (by omega))
    clear h1 HT hr2 hl
    go_wp2_with fail
    refine HB.out.mono ?_
    rintro e w3 ⟨e3, ⟨hE, A', c', rfl, hown⟩ | ⟨hE, E, rfl, hE2⟩⟩
    · have hN := HO.out
      rw [if_pos hE] at hN
      subst hN
      clear HB HO
      obtain ⟨p1, p2⟩ := own_form2 hown
      have H3 := Lib.hid (H2.out.more (L2 := [(A', blks (blkR s.data.toList))]) e3 (fun q hq => by
        obtain rfl := List.mem_singleton.1 hq
        exact Rd.of_own hown))
      clear hown hE e3 H2
      go_wp2_with fail
      refine (wneed_true _ 21).mono ?_
      rintro e w4 ⟨rfl, rfl⟩
      go_wp2_with fail
      go_ret
      exact ⟨_, _, rfl, p1, p2, H3.out⟩
    · have hN := HO.out
      rw [if_neg (by rw [hE]; decide)] at hN
      subst hN
      clear HB HO hE
      have hd : (E == 0) = false := by simpa using hE2
      go_wp2_with fail
      refine (tneed_false _ 21).mono ?_
      rintro e w4 ⟨rfl, rfl⟩
      exact ⟨rfl, rfl, H2.out.heap.later e3⟩
end Go.Proofs.YtckaneapjpiocaaGreatDoor
