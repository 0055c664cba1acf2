/- The texts Dif, Dff in one file. -/
import Derived.Test.YtmecjjmlccdppaaGreatDoorM3
import Derived.Test.YtmecjjmlccdppaaGreatDoorM10
import Derived.Test.YtmecjjmlccdppaaGreatDoorM12
import Derived.Test.YtmecjjmlccdppaaGreatDoorM4
/- blocks.differ's gone and put: the walks. -/
namespace Go.Proofs.YtmecjjmlccdppaaGreatDoor
open Go.RowKit
set_option linter.unusedVariables false
set_option linter.unusedSimpArgs false

def recs (l : List Rec) : List Value := l.flatMap Rec.cells
theorem recs_length (l : List Rec) : (recs l).length = l.length * 12 := flat_length (size := 12) (fun _ => rfl) l
theorem recs_one (l : List Rec) : ∀ u ∈ recs l, u.oneCell' = true := by
  intro u hu
  obtain ⟨x, _, hx⟩ := List.mem_flatMap.1 hu
  simp only [Rec.cells, List.mem_cons, List.not_mem_nil, or_false] at hx
  rcases hx with rfl | rfl | rfl | rfl | rfl | rfl | rfl | rfl | rfl | rfl | rfl | rfl <;> rfl
theorem recs_snoc (l : List Rec) (x : Rec) : recs (l ++ [x]) = recs l ++ x.cells := by simp [recs]
theorem recs_snoc_at (l : List Rec) (x : Rec) (j : Nat) (hj : j < 12) : (recs (l ++ [x]))[l.length * 12 + j]? = x.cells[j]? := by
  rw [recs_snoc, List.getElem?_append_right (by rw [recs_length]; omega), recs_length, Nat.add_sub_cancel_left]
def rec2 (i : Int) (d : ByteArray) : Rec := ⟨2, ⟨#[]⟩, 0, 0, none, 0, 0, [], i, 0, d, 0, 0, 0, 0⟩
def rec3 (i c : Int) : Rec := ⟨3, ⟨#[]⟩, 0, 0, none, 0, 0, [], i, c, ⟨#[]⟩, 0, 0, 0, 0⟩
theorem infoR : (Tryz.prog.info? 27).map (fun i => (i.zero, i.size, i.bytes)) = some (some (.agg #[.int .i64 0, .string .empty, .int .i64 0, .int .i64 0, .slice none 0 0, .int .i64 0, .int .i64 0, .string .empty, .int .u64 0, .int .u64 0, .int .u64 0, .int .u64 0]), 12, 128) := by kernel_rfl
/-- what is out so far, and the index that went last -/
structure Dfr where
  out : List Rec
  last : Int
def dfCells (v : Value) (last : Int) : List Value := [v, .int .i64 last]
def goneS (s : Dfr) (idx : Int) : Dfr :=
  ⟨match s.out.getLast? with
    | some l => if l.kind = 3 ∧ s.last = idx - 1 then s.out.dropLast ++ [{ l with count := l.count + 1 }] else s.out ++ [rec3 idx 1]
    | none => [rec3 idx 1], idx⟩
def putS (s : Dfr) (x : Blk) : Dfr := ⟨s.out ++ [rec2 x.index x.data], s.last⟩
theorem goneS_nil (last idx : Int) : goneS ⟨[], last⟩ idx = ⟨[rec3 idx 1], idx⟩ := rfl
theorem goneS_snoc (o : List Rec) (l : Rec) (last idx : Int) : goneS ⟨o ++ [l], last⟩ idx = ⟨if l.kind = 3 ∧ last = idx - 1 then o ++ [{ l with count := l.count + 1 }] else o ++ [l] ++ [rec3 idx 1], idx⟩ := by
  simp [goneS]
/-- a differ among the items: its variable at i, its row at j -/
def DfOut (w0 : World) (its : List It) (b i j : Nat) (s : Dfr) (e : Ending) (w' : World) : Prop :=
  ∃ v, e = .returned (.tuple #[]) ∧ Heap w0 ((its.set i (.box b (dfCells v s.last))).set j (.row 27 12 v s.out.length (recs s.out))) w'
theorem at_other {its : List It} {i j : Nat} {x : It} (h : its[i]? = some x) (hij : i ≠ j) (z : It) : (its.set j z)[i]? = some x := by rw [List.getElem?_set_ne (Ne.symm hij)]; exact h
theorem at_set2 {its : List It} {i j : Nat} {x : It} (h : its[i]? = some x) (hij : i ≠ j) (z y : It) : ((its.set j z).set i y)[i]? = some y := at_set (at_other h hij z)
theorem set_comm2 {its : List It} {i j : Nat} {x y : It} (h : i ≠ j) : (its.set i x).set j y = (its.set j y).set i x := List.set_comm x y h
set_option maxRecDepth 100000 in
set_option maxHeartbeats 8000000 in
theorem dput_any {w0 : World} {its : List It} (w : World) (H : Heap w0 its w) (b i j : Nat) (hij : i ≠ j) (v : Value) (s : Dfr) (hi : its[i]? = some (.box b (dfCells v s.last))) (hj : its[j]? = some (.row 27 12 v s.out.length (recs s.out))) (hs : s.out.length ≤ 1000000000) (x : Blk) :
    Calls Tryz.prog 85 #[.pointer (some ⟨b, 0, none⟩), .agg x.cells.toArray] w (DfOut w0 its b i j (putS s x)) := by
  obtain ⟨i0, hi0, hz0, hz1, hz2⟩ := info_parts infoR
  have HI := Lib.hid hi
  have HJ := Lib.hid hj
  have HIJ := Lib.hid hij
  have HIn := Lib.hid H
  clear hi hj H hij
  obtain ⟨out, last⟩ := s
  obtain ⟨xi, xd⟩ := x
  dsimp only at HI HJ hs
  obtain ⟨Av, cv, rfl, _, _, _⟩ := own_form (HIn.out.rowAt j HJ.out)
  simp only [Blk.cells]
  go_enter Tryz.func85, Tryz.ntmps85
  go_upto_region 1 with fail
  generalize hwA : World.alloc w _ = w1
  have HH := Lib.hid (HIn.out.allocE hwA)
  clear hwA HIn
  have HI1 := Lib.hid (at1 (x := .box w.heap.size #[.int .i64 xi, .string xd].toList) HI.out)
  have HJ1 := Lib.hid (at1 (x := .box w.heap.size #[.int .i64 xi, .string xd].toList) HJ.out)
  have HHd := Lib.hid HH.out.drew
  clear HH
  refine rgnM (fun k => Nat.blt 0 k && Nat.blt k 12) (S := Heap w0 [_, _]) (by kernel_rfl) (HHd.out.pair 0 (i + 1) rfl rfl HI1.out) (fun hHeld => ?_)
  generalize World.drew w1 = wd at *
  refine pureM 0 (v := ?_) rfl (by kernel_rfl) (by kernel_rfl) (by kernel_rfl) (by kernel_rfl) (fun _ _ _ h => h) (by kernel_rfl) ?_ (fun _ => by assumption) ?_; rotate_left; (focus (intro w; go_simp <;> with_reducible rfl)); (try simp only [Act.put, List.setIfInBounds_toArray, List.set_cons_zero, List.set_cons_succ])
  refine takeM 1 (v := ?_) rfl (by kernel_rfl) (by kernel_rfl) (by kernel_rfl) (by kernel_rfl) (fun _ _ _ h => h) (by kernel_rfl) ?_ (by assumption) ?_; rotate_left; (focus (intro w hSw; (try dsimp only at hSw); (try go_split_ands); go_simp <;> with_reducible rfl)); (try simp only [Act.put, List.setIfInBounds_toArray, List.set_cons_zero, List.set_cons_succ])
  refine takeM 2 (v := ?_) rfl (by kernel_rfl) (by kernel_rfl) (by kernel_rfl) (by kernel_rfl) (fun _ _ _ h => h) (by kernel_rfl) ?_ (by assumption) ?_; rotate_left; (focus (intro w hSw; (try dsimp only at hSw); (try go_split_ands); go_simp <;> with_reducible rfl)); (try simp only [Act.put, List.setIfInBounds_toArray, List.set_cons_zero, List.set_cons_succ])
  refine takeM 3 (v := ?_) rfl (by kernel_rfl) (by kernel_rfl) (by kernel_rfl) (by kernel_rfl) (fun _ _ _ h => h) (by kernel_rfl) ?_ (by assumption) ?_; rotate_left; (focus (intro w hSw; (try dsimp only at hSw); (try go_split_ands); go_simp <;> with_reducible rfl)); (try simp only [Act.put, List.setIfInBounds_toArray, List.set_cons_zero, List.set_cons_succ])
  refine takeM 4 rfl (by kernel_rfl) (by kernel_rfl) (by kernel_rfl) (by kernel_rfl) (fun _ _ _ h => h) (by kernel_rfl) (fun wT hST => sh_run_load1 hST rfl rfl 1 rfl rfl (by kernel_rfl)) hHeld ?_; (try simp only [Act.put, List.setIfInBounds_toArray, List.set_cons_zero, List.set_cons_succ])
  refine takeM 5 (v := ?_) rfl (by kernel_rfl) (by kernel_rfl) (by kernel_rfl) (by kernel_rfl) (fun _ _ _ h => h) (by kernel_rfl) ?_ (by assumption) ?_; rotate_left; (focus (intro w hSw; (try dsimp only at hSw); (try go_split_ands); go_simp <;> with_reducible rfl)); (try simp only [Act.put, List.setIfInBounds_toArray, List.set_cons_zero, List.set_cons_succ])
  refine takeM 6 rfl (by kernel_rfl) (by kernel_rfl) (by kernel_rfl) (by kernel_rfl) (fun _ _ _ h => h) (by kernel_rfl) (fun wT hST => sh_run_load1 hST rfl rfl 0 rfl rfl (by kernel_rfl)) hHeld ?_; (try simp only [Act.put, List.setIfInBounds_toArray, List.set_cons_zero, List.set_cons_succ])
  refine takeM 7 (v := ?_) rfl (by kernel_rfl) (by kernel_rfl) (by kernel_rfl) (by kernel_rfl) (fun _ _ _ h => h) (by kernel_rfl) ?_ (by assumption) ?_; rotate_left; (focus (intro w hSw; (try dsimp only at hSw); (try go_split_ands); go_simp <;> with_reducible rfl)); (try simp only [Act.put, List.setIfInBounds_toArray, List.set_cons_zero, List.set_cons_succ])
  refine takeM 8 rfl (by kernel_rfl) (by kernel_rfl) (by kernel_rfl) (by kernel_rfl) (fun _ _ _ h => h) (by kernel_rfl) (fun wT hST => sh_run_load1 hST rfl rfl 0 rfl rfl (by kernel_rfl)) hHeld ?_; (try simp only [Act.put, List.setIfInBounds_toArray, List.set_cons_zero, List.set_cons_succ])
  refine takeM 9 (v := ?_) rfl (by kernel_rfl) (by kernel_rfl) (by kernel_rfl) (by kernel_rfl) (fun _ _ _ h => h) (by kernel_rfl) ?_ (by assumption) ?_; rotate_left; (focus (intro w hSw; (try dsimp only at hSw); (try go_split_ands); go_simp <;> with_reducible rfl)); (try simp only [Act.put, List.setIfInBounds_toArray, List.set_cons_zero, List.set_cons_succ])
  clear hHeld
  refine oneM 10 rfl (by kernel_rfl) (by kernel_rfl) (fun K hK => ?_)
  go_simp
  generalize hwA : World.alloc wd _ = w2
  have HH2 := Lib.hid (HHd.out.allocE hwA)
  clear hwA HHd
  refine hK.out _ _ (HH2.out.pair 1 (i + 2) rfl rfl (at2 HI.out)) (fun hHeld => ?_)
  clear hK K
  (try simp only [Act.put, List.setIfInBounds_toArray, List.set_cons_zero, List.set_cons_succ])
  clear hHeld
  refine oneM 11 rfl (by kernel_rfl) (by kernel_rfl) (fun K hK => ?_)
  refine sh_app (e := 27) (size := 12) (bytes := 128) (news := (rec2 xi xd).cells) (lo := w0.heap.size) (.tmp 8) (.tmp 14) _ rfl Tryz.underlying60 hi0 hz0 hz1 hz2 rfl (by omega) HH2.out (j + 2) (at2 HJ.out) rfl (m := 1) rfl rfl (HH2.out.boxRd 0 rfl) (fun u hu => recs_one [rec2 xi xd] u (by simpa [recs] using hu)) (by simp only [maxLen]; omega) (by omega) ?_
  rintro v5 w5 hh5 ⟨A5, c5, rfl⟩
  have HH5 := Lib.hid (set2 hh5)
  clear hh5 HH2
  have HI5 := Lib.hid (show (its.set j (.row 27 12 (.slice A5 (out.length + 1) c5) (out.length + 1) (recs out ++ (rec2 xi xd).cells)))[i]? = some (.box b (dfCells (.slice Av out.length cv) last)) by rw [List.getElem?_set_ne (Ne.symm HIJ.out)]; exact HI.out)
  refine hK.out _ _ (HH5.out.pair 1 (i + 2) rfl rfl (at2 HI5.out)) (fun hHeld => ?_)
  clear hK K
  (try simp only [Act.put, List.setIfInBounds_toArray, List.set_cons_zero, List.set_cons_succ])
  refine pureM 12 (v := ?_) rfl (by kernel_rfl) (by kernel_rfl) (by kernel_rfl) (by kernel_rfl) (fun _ _ _ h => h) (by kernel_rfl) ?_ (fun _ => by assumption) ?_; rotate_left; (focus (intro w; go_simp <;> with_reducible rfl)); (try simp only [Act.put, List.setIfInBounds_toArray, List.set_cons_zero, List.set_cons_succ])
  refine pureM 13 (v := ?_) rfl (by kernel_rfl) (by kernel_rfl) (by kernel_rfl) (by kernel_rfl) (fun _ _ _ h => h) (by kernel_rfl) ?_ (fun _ => by assumption) ?_; rotate_left; (focus (intro w; go_simp <;> with_reducible rfl)); (try simp only [Act.put, List.setIfInBounds_toArray, List.set_cons_zero, List.set_cons_succ])
  refine freeM 14 rfl (by kernel_rfl) (by kernel_rfl) (by kernel_rfl) (fun K hK => ?_)
  refine sh_store1 HH5.out rfl rfl rfl (i + 2) (at2 HI5.out) (Nat.le_of_ble_eq_true rfl) rfl (by kernel_rfl) ?_
  intro w8 h8
  refine hK.out _ _ ?_
  clear hK K hHeld
  (try simp only [Act.put, List.setIfInBounds_toArray, List.set_cons_zero, List.set_cons_succ])
  refine doneM (by kernel_rfl) ?_
  have HH8 := Lib.hid (set2 h8).tail.tail
  clear HH5 h8
  go_wp2_with fail
  go_end0
  refine ⟨.slice A5 (out.length + 1) c5, rfl, ?_⟩
  have h9 := HH8.out
  rw [set_comm2 HIJ.out]
  show Heap w0 ((its.set j (.row 27 12 (.slice A5 (out.length + 1) c5) (out ++ [rec2 xi xd]).length (recs (out ++ [rec2 xi xd])))).set i (.box b (dfCells (.slice A5 (out.length + 1) c5) last))) w8
  rw [recs_snoc, List.length_append]
  exact h9
theorem recs_set_count (o : List Rec) (l : Rec) (n : Int) : (recs (o ++ [l])).take (o.length * 12 + 6) ++ [.int .i64 n] ++ (recs (o ++ [l])).drop (o.length * 12 + 6 + 1) = recs (o ++ [{ l with count := n }]) := by
  rw [recs_snoc, recs_snoc]
  have hl := recs_length o
  rw [List.take_append, List.drop_append, hl, List.take_of_length_le (by omega), List.drop_of_length_le (by omega), show o.length * 12 + 6 - o.length * 12 = 6 by omega, show o.length * 12 + 6 + 1 - o.length * 12 = 7 by omega]
  simp [Rec.cells]
set_option maxRecDepth 100000 in
set_option maxHeartbeats 8000000 in
theorem dgone_any {w0 : World} {its : List It} (w : World) (H : Heap w0 its w) (b i j : Nat) (hij : i ≠ j) (v : Value) (s : Dfr) (hi : its[i]? = some (.box b (dfCells v s.last))) (hj : its[j]? = some (.row 27 12 v s.out.length (recs s.out))) (hs : s.out.length ≤ 1000000000)
    (hc : ∀ r ∈ s.out, 0 ≤ r.count ∧ r.count ≤ 1000000000) (idx : Int) (hx : 0 ≤ idx ∧ idx ≤ 100000) :
    Calls Tryz.prog 84 #[.pointer (some ⟨b, 0, none⟩), .int .i64 idx] w (DfOut w0 its b i j (goneS s idx)) := by
  obtain ⟨i0, hi0, hz0, hz1, hz2⟩ := info_parts infoR
  have HI := Lib.hid hi
  have HJ := Lib.hid hj
  have HIJ := Lib.hid hij
  have HH := Lib.hid H
  have HC := Lib.hid hc
  clear hi hj H hij hc
  obtain ⟨out, last⟩ := s
  dsimp only at HI HJ hs HC
  have c0 := (HH.out.boxAt i HI.out).cell 0 _ rfl
  have c1 := (HH.out.boxAt i HI.out).cell 1 _ rfl
  rcases List.eq_nil_or_concat out with rfl | ⟨o, l, rfl⟩
  · rw [goneS_nil]
    obtain ⟨Av, cv, rfl, _, _, _⟩ := own_form (HH.out.rowAt j HJ.out)
    simp only [List.length_nil] at *
    go_enter Tryz.func84, Tryz.ntmps84
    go_upto_region 3 with fail
    have HH1 := Lib.hid ((HH.out).alloc (rec3 idx 1).cells.toArray 27); clear HH; simp only [Rec.cells, rec3] at HH1; (iterate 60 (first | at_builtin | go_step)); refine shl_app (e := 27) (size := 12) (bytes := 128) (news := (rec3 idx 1).cells) (lo := w0.heap.size) (.tmp 48) (.tmp 51) _ rfl rfl Tryz.underlying60 hi0 hz0 hz1 hz2 rfl (by omega) HH1.out (j + 1) (at1 HJ.out) rfl (m := 1) rfl rfl (HH1.out.boxRd 0 rfl) ?_ ?_ ?_ ?_; (focus (intro u hu; exact recs_one [rec3 idx 1] u (by simpa [recs] using hu))); (focus (simp only [maxLen]; omega)); (focus omega); intro v7 w7 hh7 h7; obtain ⟨A7, c7, rfl⟩ := h7; have HH := Lib.hid (show Heap w0 (its.set j _) w7 from hh7.tail); clear HH1 hh7; have HI2 := Lib.hid (at_other HI.out HIJ.out); go_upto_region 4 with (refine shl_store1 HH.out rfl rfl rfl rfl (i) (HI2.out _) rfl rfl (by kernel_rfl) ?_; clear HH; intro wS HHS; have HH := Lib.hid HHS; clear HHS); have HI3 := Lib.hid (at_set2 HI.out HIJ.out)
    go_wp2_with (refine shl_store1 HH.out rfl rfl rfl rfl (i) (HI3.out _ _) rfl rfl (by kernel_rfl) ?_; clear HH; intro wS HHS; have HH := Lib.hid HHS; clear HHS); go_end0; refine ⟨.slice A7 (0 + 1) c7, rfl, ?_⟩; rw [set_comm2 HIJ.out]; have h9 := HH.out; rw [set_set] at h9
    exact h9
  · rw [List.concat_eq_append] at *
    rw [goneS_snoc]
    have hln : (o ++ [l]).length = o.length + 1 := by simp
    obtain ⟨g, cv, hv⟩ := HH.out.rowForm j HJ.out (by rw [hln]; omega)
    subst hv
    rw [hln] at HJ HI hs c0
    have hrow := HH.out.rowAt j HJ.out
    have f0 : w.cell? ⟨g, o.length * 12, none⟩ = some (.int .i64 l.kind) := by
      rw [hrow.cellAt (o.length * 12) (by omega)]
      exact recs_snoc_at o l 0 (by omega)
    have f6 : w.cell? ⟨g, o.length * 12 + 6, none⟩ = some (.int .i64 l.count) := by
      rw [hrow.cellAt (o.length * 12 + 6) (by omega)]
      exact recs_snoc_at o l 6 (by omega)
    have hcl := HC.out l (by simp)
    clear hrow HC
    by_cases q1 : l.kind = 3
    · by_cases q2 : last = idx - 1
      · rw [if_pos ⟨q1, q2⟩]
        generalize hl2 : ({ l with count := l.count + 1 } : Rec) = l2
        have HL2 := Lib.hid hl2
        clear hl2
        go_enter Tryz.func84, Tryz.ntmps84
        go_upto_region 2 with fail
        go_upto_region 4 with (refine shl_rstore1 (v := .int .i64 (l.count + 1)) HH.out rfl rfl rfl rfl j HJ.out (by omega) rfl (by kernel_rfl) ?_; clear HH; intro wS HHS; have HH := Lib.hid HHS; clear HHS)
        have HI2 := Lib.hid (at_other HI.out HIJ.out)
        clear c0 c1 f0 f6
        go_wp2_with (refine shl_store1 HH.out rfl rfl rfl rfl (i) (HI2.out _) rfl rfl (by kernel_rfl) ?_; clear HH; intro wS HHS; have HH := Lib.hid HHS; clear HHS)
        go_end0
        refine ⟨.slice (some ⟨g, 0, none⟩) (o.length + 1) cv, rfl, ?_⟩
        rw [set_comm2 HIJ.out]
        have h9 := HH.out
        rw [recs_set_count, HL2.out] at h9
        have he : (o ++ [l2]).length = o.length + 1 := by simp
        show Heap w0 ((its.set j (.row 27 12 _ (o ++ [l2]).length (recs (o ++ [l2])))).set i _) _
        rw [he]
        exact h9
      · rw [if_neg (fun h => q2 h.2)]
        have d2 : (last == idx - 1) = false := by simpa using q2
        go_enter Tryz.func84, Tryz.ntmps84
        go_upto_region 3 with fail
        have HH1 := Lib.hid ((HH.out).alloc (rec3 idx 1).cells.toArray 27); clear HH; simp only [Rec.cells, rec3] at HH1; (iterate 60 (first | at_builtin | go_step)); refine shl_app (e := 27) (size := 12) (bytes := 128) (news := (rec3 idx 1).cells) (lo := w0.heap.size) (.tmp 48) (.tmp 51) _ rfl rfl Tryz.underlying60 hi0 hz0 hz1 hz2 rfl (by omega) HH1.out (j + 1) (at1 HJ.out) rfl (m := 1) rfl rfl (HH1.out.boxRd 0 rfl) ?_ ?_ ?_ ?_; (focus (intro u hu; exact recs_one [rec3 idx 1] u (by simpa [recs] using hu))); (focus (simp only [maxLen]; omega)); (focus omega); intro v7 w7 hh7 h7; obtain ⟨A7, c7, rfl⟩ := h7; have HH := Lib.hid (show Heap w0 (its.set j _) w7 from hh7.tail); clear HH1 hh7; have HI2 := Lib.hid (at_other HI.out HIJ.out); go_upto_region 4 with (refine shl_store1 HH.out rfl rfl rfl rfl (i) (HI2.out _) rfl rfl (by kernel_rfl) ?_; clear HH; intro wS HHS; have HH := Lib.hid HHS; clear HHS); have HI3 := Lib.hid (at_set2 HI.out HIJ.out)
        clear c0 c1 f0 f6
        go_wp2_with (refine shl_store1 HH.out rfl rfl rfl rfl (i) (HI3.out _ _) rfl rfl (by kernel_rfl) ?_; clear HH; intro wS HHS; have HH := Lib.hid HHS; clear HHS); go_end0; refine ⟨.slice A7 (o.length + 1 + 1) c7, rfl, ?_⟩; rw [set_comm2 HIJ.out]; have h9 := HH.out; rw [set_set] at h9
        have he : (o ++ [l, rec3 idx 1]).length = o.length + 1 + 1 := by simp
        have hr : recs (o ++ [l, rec3 idx 1]) = recs (o ++ [l]) ++ (rec3 idx 1).cells := by simp [recs]
        show Heap w0 ((its.set j (.row 27 12 _ (o ++ [l, rec3 idx 1]).length (recs (o ++ [l, rec3 idx 1])))).set i _) _
        rw [he, hr]
        exact h9
    · rw [if_neg (fun h => q1 h.1)]
      have d1 : (l.kind == 3) = false := by simpa using q1
      go_enter Tryz.func84, Tryz.ntmps84
      go_upto_region 3 with fail
      have HH1 := Lib.hid ((HH.out).alloc (rec3 idx 1).cells.toArray 27); clear HH; simp only [Rec.cells, rec3] at HH1; (iterate 60 (first | at_builtin | go_step)); refine shl_app (e := 27) (size := 12) (bytes := 128) (news := (rec3 idx 1).cells) (lo := w0.heap.size) (.tmp 48) (.tmp 51) _ rfl rfl Tryz.underlying60 hi0 hz0 hz1 hz2 rfl (by omega) HH1.out (j + 1) (at1 HJ.out) rfl (m := 1) rfl rfl (HH1.out.boxRd 0 rfl) ?_ ?_ ?_ ?_; (focus (intro u hu; exact recs_one [rec3 idx 1] u (by simpa [recs] using hu))); (focus (simp only [maxLen]; omega)); (focus omega); intro v7 w7 hh7 h7; obtain ⟨A7, c7, rfl⟩ := h7; have HH := Lib.hid (show Heap w0 (its.set j _) w7 from hh7.tail); clear HH1 hh7; have HI2 := Lib.hid (at_other HI.out HIJ.out); go_upto_region 4 with (refine shl_store1 HH.out rfl rfl rfl rfl (i) (HI2.out _) rfl rfl (by kernel_rfl) ?_; clear HH; intro wS HHS; have HH := Lib.hid HHS; clear HHS); have HI3 := Lib.hid (at_set2 HI.out HIJ.out)
      clear c0 c1 f0 f6
      go_wp2_with (refine shl_store1 HH.out rfl rfl rfl rfl (i) (HI3.out _ _) rfl rfl (by kernel_rfl) ?_; clear HH; intro wS HHS; have HH := Lib.hid HHS; clear HHS); go_end0; refine ⟨.slice A7 (o.length + 1 + 1) c7, rfl, ?_⟩; rw [set_comm2 HIJ.out]; have h9 := HH.out; rw [set_set] at h9
      have he : (o ++ [l, rec3 idx 1]).length = o.length + 1 + 1 := by simp
      have hr : recs (o ++ [l, rec3 idx 1]) = recs (o ++ [l]) ++ (rec3 idx 1).cells := by simp [recs]
      show Heap w0 ((its.set j (.row 27 12 _ (o ++ [l, rec3 idx 1]).length (recs (o ++ [l, rec3 idx 1])))).set i _) _
      rw [he, hr]
      exact h9
end Go.Proofs.YtmecjjmlccdppaaGreatDoor
/- cmp.Or over codes; blocks.Diff: the walks. -/
namespace Go.Proofs.YtmecjjmlccdppaaGreatDoor
open Go.RowKit
set_option linter.unusedVariables false
set_option linter.unusedSimpArgs false

def orL : List Int → Int
  | [] => 0
  | a :: r => if a = 0 then orL r else a
theorem orL_drop (l : List Int) (k : Nat) (h : k < l.length) : orL (l.drop k) = if l[k] = 0 then orL (l.drop (k + 1)) else l[k] := by
  rw [List.drop_eq_getElem_cons h]
  rfl
set_option maxRecDepth 100000 in
set_option maxHeartbeats 4000000 in
theorem or_any (w : World) (A : Option Addr) (n c : Nat) (l : List Int) (hn : n = l.length) (hN : n ≤ 1000000) (hr : Rd w 0 w.heap.size A (ints l)) :
    Calls Tryz.prog 83 #[.slice A n c] w fun e w' => e = .returned (.int .i64 (orL l)) ∧ Ext w w' := by
  have Hn := Lib.hid hn
  have HR := Lib.hid hr
  have HD := Lib.hid (orL_drop l)
  clear hn hr
  go_enter Tryz.func83, Tryz.ntmps83
  go_wp2_with fail
  go_loopw [8] (fun i wr => ∃ k : Nat, k ≤ n ∧ i = .int .i64 k ∧ Hid (orL l = orL (l.drop k)) ∧ Ext w wr) (fun i _ => n - (intOf i).toNat)
  case atStart => exact ⟨0, Nat.zero_le _, rfl, Lib.hid rfl, Ext.refl _⟩
  case round =>
    obtain ⟨k, hk, rfl, HK, e1⟩ := hrel
    by_cases hlt : k < n
    · have l1 : k < l.length := by rw [← Hn.out]; exact hlt
      obtain ⟨b1, o1, rfl, _, _, f0⟩ := rd_int (HR.out.ext e1 (Nat.le_refl _)) l1
      have HK2 := Lib.hid (HK.out.trans (HD.out k l1))
      generalize l[k] = z at *
      by_cases hz : z = 0
      · subst hz
        go_wp2_with fail
        go_roundw
        case rel => exact ⟨k + 1, by omega, by go_num, Lib.hid (by rw [HK2.out]; rfl), e1⟩
        case measure => simp [intOf]; omega
      · have hz2 : (z != 0) = true := by simpa using hz
        go_wp2_with fail
        go_ret
        exact ⟨by rw [HK2.out, if_neg hz]; rfl, e1⟩
    · obtain rfl : k = n := by omega
      have h0 : orL l = 0 := by
        rw [HK.out, List.drop_of_length_le (by rw [← Hn.out]; exact Nat.le_refl _)]
        rfl
      have H0 := Lib.hid h0
      clear h0
      go_wp2_with fail
      go_ret
      exact ⟨by rw [H0.out]; rfl, e1⟩
def dif : List Blk → List Blk → Dfr → Dfr
  | [], [], s => s
  | x :: a, [], s => dif a [] (goneS s x.index)
  | [], y :: b, s => dif [] b (putS s y)
  | x :: a, y :: b, s => if x.index < y.index then dif a (y :: b) (goneS s x.index) else if y.index < x.index then dif (x :: a) b (putS s y) else dif a b (if x = y then s else putS s y)
termination_by a b => a.length + b.length
def dfE (xs ys : List Blk) : Int := orL [bkE xs, bkE ys]
def dfL (xs ys : List Blk) : List Rec := if dfE xs ys = 0 then (dif xs ys ⟨[], -2⟩).out else []
theorem bk_in {xs : List Blk} (h : bkE xs = 0) : ∀ x ∈ xs, 0 ≤ x.index ∧ x.index < 1024 ∧ x.data.size = 16 := by
  intro x hx
  obtain ⟨k, hk, rfl⟩ := List.getElem_of_mem hx
  unfold bkE at h
  split at h
  · cases h
  · rename_i hb
    by_cases hq : badOne xs[k].index xs[k].data.size = true
    · exact absurd (bkUpto_at xs k xs.length hk (by rw [bkBad_at xs k hk, hq]; rfl)) hb
    · simp only [badOne, Bool.or_eq_true, decide_eq_true_eq, not_or] at hq
      omega
/-- what is told of Diff -/
def DiffOut (w : World) (xs ys : List Blk) (e : Ending) (w' : World) : Prop :=
  ∃ v, e = .returned (.tuple #[v, .int .i64 (dfE xs ys)]) ∧ w'.ownsRow w.heap.size 27 12 v (dfL xs ys).length (recs (dfL xs ys)) ∧ Ext w w'
def lenV : Value → Nat
  | .slice _ n _ => n
  | _ => 0
theorem head_blk {w : World} {lo hi : Nat} {A : Option Addr} {x : Blk} {r : List Blk} (h : Rd w lo hi A (blks (x :: r))) : ∃ b o, A = some ⟨b, o, none⟩ ∧ w.cell? ⟨b, o, none⟩ = some (.int .i64 x.index) ∧ w.cell? ⟨b, o + 1, none⟩ = some (.string x.data) := by
  obtain ⟨b, o, h1, _, _, h2, h3⟩ := rd_blk h (k := 0) (by simp)
  exact ⟨b, o, h1, by simpa using h2, by simpa using h3⟩
theorem tail_blk {w : World} {lo hi c : Nat} {A : Option Addr} {x : Blk} {r : List Blk} (h : Rd w lo hi A (blks (x :: r))) (hc : r.length + 1 ≤ c) : Rd w lo hi (shiftA A c 1 2) (blks r) := by
  have h1 := h.from_ (n := r.length + 1) (k := 1) (c := c) (size := 2) (by rw [blks_length]; rfl) (by omega) hc
  simpa [blks, Blk.cells] using h1
theorem goneS_len (s : Dfr) (i : Int) : (goneS s i).out.length ≤ s.out.length + 1 := by
  obtain ⟨out, last⟩ := s
  rcases List.eq_nil_or_concat out with rfl | ⟨o, l, rfl⟩
  · simp [goneS]
  · rw [List.concat_eq_append, goneS_snoc]
    split <;> simp
theorem goneS_count (s : Dfr) (i : Int) (n m : Nat) (h : ∀ r ∈ s.out, 0 ≤ r.count ∧ r.count + ((n + 1 : Nat) : Int) ≤ m) (hm : n + 1 ≤ m) : ∀ r ∈ (goneS s i).out, 0 ≤ r.count ∧ r.count + (n : Int) ≤ m := by
  obtain ⟨out, last⟩ := s
  rcases List.eq_nil_or_concat out with rfl | ⟨o, l, rfl⟩
  · intro r hr
    simp only [goneS_nil, List.mem_cons, List.not_mem_nil, or_false] at hr
    subst hr
    simp only [rec3]
    omega
  · rw [List.concat_eq_append] at *
    rw [goneS_snoc]
    dsimp only at h
    split
    · intro r hr
      rcases List.mem_append.1 hr with hr | hr
      · have := h r (by simp [hr])
        omega
      · have := h l (by simp)
        simp only [List.mem_cons, List.not_mem_nil, or_false] at hr
        subst hr
        dsimp only
        omega
    · intro r hr
      rcases List.mem_append.1 hr with hr | hr
      · have := h r hr
        omega
      · simp only [List.mem_cons, List.not_mem_nil, or_false] at hr
        subst hr
        simp only [rec3]
        omega
theorem putS_count (s : Dfr) (x : Blk) (n m : Nat) (h : ∀ r ∈ s.out, 0 ≤ r.count ∧ r.count + (n : Int) ≤ m) (hn : n ≤ m) : ∀ r ∈ (putS s x).out, 0 ≤ r.count ∧ r.count + (n : Int) ≤ m := by
  intro r hr
  rcases List.mem_append.1 hr with hr | hr
  · exact h r hr
  · simp only [List.mem_cons, List.not_mem_nil, or_false] at hr
    subst hr
    simp only [rec2]
    omega
end Go.Proofs.YtmecjjmlccdppaaGreatDoor
