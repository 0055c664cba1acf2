/- The texts Mk, Mkp, Sumr, Ovl in one file. -/
import Derived.Test.YtmecjjmlccdppaaGreatDoorM14
import Derived.Test.YtmecjjmlccdppaaGreatDoorM20
import Derived.Defers
import Derived.Recover
import Derived.Test.YtmecjjmlccdppaaGreatDoorM18
import Derived.Sort.Walk0
/- stream.need, caught, Make$1, writer.put: the walks. -/
namespace Go.Proofs.YtmecjjmlccdppaaGreatDoor
open Go.RowKit
set_option linter.unusedVariables false
set_option linter.unusedSimpArgs false

section
variable {P : Program} {ops : Array Oper} {Q : Exit → Act → List Frame → World → Prop} {i : Nat} {rest : List Nat} {a : Act} {cs cs' : List Frame} {w w' : World} {o : Oper} {v : Value}
structure WS (P : Program) (ops : Array Oper) (Q : Exit → Act → List Frame → World → Prop) (l : List Nat) (a : Act) (cs : List Frame) (w : World) : Prop where
  out : wpOpsS P ops Q l a cs w
theorem ws_region {id : Nat} {l : List Nat} (hl : List.range ops.size = l) (h : WS P ops Q l a cs w) : (Code.region id ops false).wpS P Q a cs w := wpS_region (hl ▸ h.out)
theorem ws_val (h : ops[i]? = some o) (hw : Region.wanted o (yielded ops a.tmps) = true) (hr : (execOp a.eval o).run P w = .ok (.value v) w') (k : WS P ops Q rest (a.put o.dst v) cs w') : WS P ops Q (i :: rest) a cs w := by
  constructor
  simp only [wpOpsS, h, if_pos hw, hr]
  exact k.out
theorem ws_skip (h : ops[i]? = some o) (hw : Region.wanted o (yielded ops a.tmps) = true) (hr : (execOp a.eval o).run P w = .ok .skip w') (k : WS P ops Q rest (a.put o.dst undef) cs w') : WS P ops Q (i :: rest) a cs w := by
  constructor
  simp only [wpOpsS, h, if_pos hw, hr]
  exact k.out
theorem ws_rec (h : ops[i]? = some o) (hw : Region.wanted o (yielded ops a.tmps) = true) (hr : (execOp a.eval o).run P w = .ok .recover w') (hd : recoverD cs = some (v, cs')) (k : WS P ops Q rest (a.put o.dst v) cs' w') : WS P ops Q (i :: rest) a cs w := by
  constructor
  simp only [wpOpsS, h, if_pos hw, hr, hd]
  exact k.out
theorem ws_rec0 (h : ops[i]? = some o) (hw : Region.wanted o (yielded ops a.tmps) = true) (hr : (execOp a.eval o).run P w = .ok .recover w') (hd : recoverD cs = none) (k : WS P ops Q rest (a.put o.dst .nilIface) cs w') : WS P ops Q (i :: rest) a cs w := by
  constructor
  simp only [wpOpsS, h, if_pos hw, hr, hd]
  exact k.out
theorem ws_end (k : Q .normal a cs w) : WS P ops Q [] a cs w := ⟨k⟩
end
abbrev faultV (at' e : Int) : Value := .iface 104 (.agg #[.int .i64 at', .int .i64 e])
set_option maxRecDepth 100000 in
theorem need_true (w : World) (p q : Int) : Calls Tryz.prog 48 #[.bool true, .int .i64 p, .int .i64 q] w fun e w' => e = .returned (.tuple #[]) ∧ w' = w := by
  go_enter Tryz.func48, Tryz.ntmps48
  go_wp2_with fail
  go_end0
  exact ⟨rfl, rfl⟩
set_option maxRecDepth 100000 in
theorem need_false (w : World) (p q : Int) : Calls Tryz.prog 48 #[.bool false, .int .i64 p, .int .i64 q] w fun e w' => e = .panicked [{ v := faultV p q, recovered := false }] ∧ w' = w := by
  go_enter Tryz.func48, Tryz.ntmps48
  go_wp2_with fail
  exact ⟨rfl, rfl, rfl⟩
set_option maxRecDepth 100000 in
set_option maxHeartbeats 4000000 in
theorem caught_panicking {w0 w : World} {its : List It} {b i : Nat} (x q : Int) (older : List PanicEntry) (HH : Hid (Heap w0 its w)) (hi : its[i]? = some (.box b [.int .i64 x])) :
    CallsD Tryz.prog 46 #[.pointer (some ⟨b, 0, none⟩)] (.panicking ({ v := faultV 0 q, recovered := false } :: older)) w fun e u' w' =>
      e = .returned (.tuple #[]) ∧ u' = .panicking ({ v := faultV 0 q, recovered := true } :: older) ∧ Heap w0 (its.set i (.box b [.int .i64 q])) w' := by
  refine callsD_of_wpS Tryz.func46 rfl fun c₀ cs hu => ?_
  simp only [Tryz.ntmps46, List.size_toArray, List.length_cons, List.length_nil, Nat.reduceAdd, Nat.reduceSub, Array.replicate_succ, Array.replicate_zero, List.push_toArray, List.append_toArray, List.nil_append, List.cons_append]
  apply wpS_seq
  apply ws_region (l := [0,1,2,3,4,5,6,7]) rfl
  refine ws_rec (w' := w) (cs' := { c₀ with mode := .panicking ({ v := faultV 0 q, recovered := true } :: older) } :: cs) (v := faultV 0 q) rfl (by kernel_rfl) (by rfl) (by simp only [recoverD, hu]) ?_
  simp only [Act.put]
  refine ws_val (w' := w) (v := .tuple #[.agg #[.int .i64 0, .int .i64 q], .bool true]) rfl (by kernel_rfl) (by kernel_rfl) ?_
  refine ws_val (w' := w) (v := .tuple #[.agg #[.int .i64 0, .int .i64 q], .bool true]) rfl (by kernel_rfl) (by kernel_rfl) ?_
  refine ws_val (w' := w) (v := .agg #[.int .i64 0, .int .i64 q]) rfl (by kernel_rfl) (by kernel_rfl) ?_
  refine ws_val (w' := w) (v := .bool true) rfl (by kernel_rfl) (by kernel_rfl) ?_
  refine ws_val (w' := w.alloc (.cells #[.int .i64 0, .int .i64 0] 104)) (v := .pointer (some ⟨w.heap.size, 0, none⟩)) rfl (by kernel_rfl) (by simp [go_sem]) ?_
  refine ws_skip (w' := w.alloc (.cells #[.int .i64 0, .int .i64 q] 104)) rfl (by kernel_rfl) (by simp [go_sem]) ?_
  refine ws_val (w' := w.alloc (.cells #[.int .i64 0, .int .i64 q] 104)) (v := .bool true) rfl (by kernel_rfl) (by kernel_rfl) ?_
  refine ws_end ?_
  simp only [Exit.thenS]
  refine wpS_of_wp ?_
  generalize hwA : World.alloc w _ = w1
  have HH1 := Lib.hid (HH.out.allocE hwA)
  clear hwA
  have hj : (It.box w.heap.size [Value.int .i64 0, .int .i64 q] :: its)[i + 1]? = some (.box b [.int .i64 x]) := at1 hi
  clear HH; have HH := HH1; clear HH1
  have cb := (HH.out.boxAt (i + 1) hj).cell 0 _ rfl
  have cf := (HH.out.boxAt (i + 1) hj).frozen 0
  have HP := Lib.hid (HH.out.put1 (p := 0) (v := .int .i64 q) (i + 1) hj).tail
  go_wp2_with ((refine shl_load1 HH.out rfl rfl rfl 0 rfl rfl (by decide +kernel) ?_))
  exact ⟨rfl, .panicking ({ v := faultV 0 q, recovered := true } :: older), rfl, .tuple #[], by kernel_rfl, rfl, rfl, HP.out⟩
set_option maxRecDepth 100000 in
theorem caught_idle {w0 w : World} {its : List It} {b : Nat} (HH : Hid (Heap w0 its w)) :
    CallsD Tryz.prog 46 #[.pointer (some ⟨b, 0, none⟩)] .returning w fun e u' w' =>
      e = .returned (.tuple #[]) ∧ u' = .returning ∧ Heap w0 its w' := by
  refine callsD_of_wpS Tryz.func46 rfl fun c₀ cs hu => ?_
  simp only [Tryz.ntmps46, List.size_toArray, List.length_cons, List.length_nil, Nat.reduceAdd, Nat.reduceSub, Array.replicate_succ, Array.replicate_zero, List.push_toArray, List.append_toArray, List.nil_append, List.cons_append]
  apply wpS_seq
  apply ws_region (l := [0,1,2,3,4,5,6,7]) rfl
  refine ws_rec0 (w' := w) rfl (by kernel_rfl) (by rfl) (by simp only [recoverD, hu]) ?_
  simp only [Act.put]
  refine ws_val (w' := w) (v := .tuple #[.agg #[.int .i64 0, .int .i64 0], .bool false]) rfl (by kernel_rfl) (by kernel_rfl) ?_
  refine ws_val (w' := w) (v := .tuple #[.agg #[.int .i64 0, .int .i64 0], .bool false]) rfl (by kernel_rfl) (by kernel_rfl) ?_
  refine ws_val (w' := w) (v := .agg #[.int .i64 0, .int .i64 0]) rfl (by kernel_rfl) (by kernel_rfl) ?_
  refine ws_val (w' := w) (v := .bool false) rfl (by kernel_rfl) (by kernel_rfl) ?_
  refine ws_val (w' := w.alloc (.cells #[.int .i64 0, .int .i64 0] 104)) (v := .pointer (some ⟨w.heap.size, 0, none⟩)) rfl (by kernel_rfl) (by simp [go_sem]) ?_
  refine ws_skip (w' := w.alloc (.cells #[.int .i64 0, .int .i64 0] 104)) rfl (by kernel_rfl) (by simp [go_sem]) ?_
  refine ws_val (w' := w.alloc (.cells #[.int .i64 0, .int .i64 0] 104)) (v := .bool false) rfl (by kernel_rfl) (by kernel_rfl) ?_
  refine ws_end ?_
  simp only [Exit.thenS]
  refine wpS_of_wp ?_
  generalize hwA : World.alloc w _ = w1
  have HH1 := Lib.hid (HH.out.allocE hwA).tail
  clear hwA
  clear HH; have HH := HH1; clear HH1
  go_wp2_with fail
  refine ⟨rfl, .returning, ?_, .tuple #[], by kernel_rfl, rfl, rfl, HH.out⟩
  cases c₀
  simp_all
set_option maxRecDepth 100000 in
theorem mk1_ok {w0 w : World} {its : List It} {b b2 i j : Nat} {q : Int} {v : Value} (HH : Hid (Heap w0 its w)) (hi : its[i]? = some (.box b [.int .i64 q])) (hj : its[j]? = some (.box b2 [v])) :
    CallsD Tryz.prog 45 #[.pointer (some ⟨b, 0, none⟩), .pointer (some ⟨b2, 0, none⟩)] .returning w fun e u' w' =>
      u' = .returning ∧ e = .returned (.tuple #[]) ∧ Heap w0 (if q = 0 then its else its.set j (.box b2 [.slice none 0 0])) w' := by
  refine callsD_of_wp Tryz.func45 rfl ?_
  simp only [Tryz.ntmps45, List.size_toArray, List.length_cons, List.length_nil, Nat.reduceAdd, Nat.reduceSub, Array.replicate_succ, Array.replicate_zero, List.push_toArray, List.append_toArray, List.nil_append, List.cons_append]
  have ci := (HH.out.boxAt i hi).cell 0 _ rfl
  have cj := (HH.out.boxAt j hj).cell 0 _ rfl
  have cf := (HH.out.boxAt j hj).frozen 0
  by_cases hq : q = 0
  · go_wp2_with fail
    exact ⟨rfl, .tuple #[], by kernel_rfl, rfl, HH.out⟩
  · go_wp2_with fail
    exact ⟨rfl, .tuple #[], by kernel_rfl, rfl, HH.out.put1 (p := 0) j hj⟩
end Go.Proofs.YtmecjjmlccdppaaGreatDoor
/- stream.writer's put: the walk. -/
namespace Go.Proofs.YtmecjjmlccdppaaGreatDoor
open Go.RowKit
set_option linter.unusedVariables false
set_option linter.unusedSimpArgs false

set_option maxRecDepth 100000 in
set_option maxHeartbeats 8000000 in
theorem wput_bad {w0 w : World} {its : List It} (b : Nat) (H : Heap w0 its w)
    (x : Rec) (hr : Rd w 0 w.heap.size x.oA (prps x.own)) (hx : x.wf) (hon : x.on ≤ 100000000) (hs : (sumR x).wf) (hE : ¬ recE x = 0) :
    Calls Tryz.prog 47 #[.pointer (some ⟨b, 0, none⟩), .agg x.cells.toArray] w
      fun e w' => e = .panicked [{ v := faultV 0 (recE x), recovered := false }] ∧ Heap w0 its w' := by
  have HEn := Lib.hid (fun W (hW : Ext w W) => encode_any W x (Rd.at hr hW (Nat.le_refl _)) hx hon hs)
  have HEx := Lib.hid (fun W e w' (h : EncOk x W e w') => show ∃ v, e = .returned (.tuple #[v, .int .i64 (recE x)]) ∧ Ext W w' from by
    obtain ⟨v, h1, h2, h3⟩ := h
    exact ⟨v, h1, h3⟩)
  generalize EncOk x = EO at *
  generalize recE x = E at *
  clear hr hx hon hs
  obtain ⟨kind, name, frm, guid, oA, on, oc, own, index, count, data, s0, s1, s2, s3⟩ := x
  simp only [Rec.cells] at HEn
  simp only [Rec.cells]
  go_enter Tryz.func47, Tryz.ntmps47
  go_upto_region 1 with fail
  generalize hwA : World.alloc w _ = w1
  have e1 : Ext w w1 := by rw [← hwA]; exact (Ext.refl w).alloc _
  have HH := Lib.hid (H.allocE hwA)
  clear hwA H
  go_wp2_with (refine shl_load HH.out sizeRec (by kernel_rfl) rfl rfl rfl 0 rfl rfl ?_)
  refine (HEn.out w1 e1).mono ?_
  intro e w2 hEO
  obtain ⟨v2, rfl, e2⟩ := HEx.out _ _ _ hEO
  have HH2 := Lib.hid (HH.out.later e2).tail
  clear HH e2 hEO
  clear HEn HEx
  have hb : (E == 0) = false := by simpa using hE
  go_wp2_with fail
  refine (need_false w2 0 E).mono ?_
  rintro e w3 ⟨rfl, rfl⟩
  exact ⟨rfl, rfl, HH2.out⟩
set_option maxRecDepth 100000 in
set_option maxHeartbeats 8000000 in
theorem wput_ok {w0 w : World} {its : List It} (b i j : Nat) (hij : ¬ i = j) (su : Su) (v : Value) (n : Nat) (out : List UInt8) (H : Heap w0 its w) (hi : its[i]? = some (.box b (v :: su.cells))) (hj : its[j]? = some (.row 5 1 v n (bytes out)))
    (x : Rec) (hr : Rd w 0 w.heap.size x.oA (prps x.own)) (hx : x.wf) (hon : x.on ≤ 100000000) (hs : (sumR x).wf) (hE : recE x = 0) (hn : n ≤ 1000000000000) :
    Calls Tryz.prog 47 #[.pointer (some ⟨b, 0, none⟩), .agg x.cells.toArray] w
      fun e w' => e = .returned (.tuple #[]) ∧ ∃ v', Heap w0 ((its.set j (.row 5 1 v' (n + (encB x).length) (bytes (out ++ encB x)))).set i (.box b (v' :: (feed su (encB x)).cells))) w' := by
  have HEn := Lib.hid (fun W (hW : Ext w W) => encode_any W x (Rd.at hr hW (Nat.le_refl _)) hx hon hs)
  have hlen := encB_len x
  have HEx := Lib.hid (fun W e w' (h : EncOk x W e w') => show ∃ v, e = .returned (.tuple #[v, .int .i64 0]) ∧ w'.ownsRow W.heap.size 5 1 v (encB x).length (bytes (encB x)) ∧ Ext W w' from by
    obtain ⟨v, h1, h2⟩ := h
    rw [hE] at h1
    exact ⟨v, h1, h2⟩)
  generalize EncOk x = EO at *
  generalize encB x = B at *
  clear hr hx hon hs hE
  obtain ⟨kind, name, frm, guid, oA, on, oc, own, index, count, data, s0, s1, s2, s3⟩ := x
  obtain ⟨ua, ub, uc, ud⟩ := su
  simp only [Rec.cells] at HEn
  simp only [Rec.cells, Su.cells] at hi ⊢
  have HI := Lib.hid hi
  have HJ := Lib.hid hj
  have HIJ := Lib.hid hij
  clear hi hj hij
  obtain ⟨m, hm⟩ : ∃ m, m = B.length := ⟨_, rfl⟩
  rw [← hm] at hlen HEx ⊢
  have HM := Lib.hid hm
  clear hm
  obtain ⟨i0, hi0, hz0, hz1, hz2⟩ := info_parts info5
  go_enter Tryz.func47, Tryz.ntmps47
  go_upto_region 1 with fail
  generalize hwA : World.alloc w _ = w1
  have e1 : Ext w w1 := by rw [← hwA]; exact (Ext.refl w).alloc _
  have HH := Lib.hid (H.allocE hwA)
  clear hwA H
  go_wp2_with (refine shl_load HH.out sizeRec (by kernel_rfl) rfl rfl rfl 0 rfl rfl ?_)
  refine (HEn.out w1 e1).mono ?_
  intro e w2 hEO
  obtain ⟨v2, rfl, hown2, e2⟩ := HEx.out _ _ _ hEO
  obtain ⟨A2, c2, rfl, k1, k2, _⟩ := own_form hown2
  simp only [maxLen] at k2
  have HH2 := Lib.hid (HH.out.addRow e2 hown2)
  clear HH hown2 e2 hEO
  have HH := HH2
  clear HH2
  clear HEn HEx
  go_wp2_with fail
  refine (need_true w2 0 0).mono ?_
  rintro e w3 ⟨rfl, rfl⟩
  go_upto_region 3 with fail
  have cb := (HH.out.boxAt (i + 2) (at2 HI.out)).cell 0 _ rfl
  have hR := (Rd.of_own (HH.out.rowAt 0 rfl)).more (Nat.zero_le _) (Nat.le_refl _)
  (iterate 60 (first | at_builtin | go_step))
  clear cb
  refine shl_app (e := 5) (size := 1) (bytes := 1) (news := bytes B) (lo := 0) (.tmp 19) (.tmp 20) _ rfl rfl Tryz.underlying57 hi0 hz0 hz1 hz2 rfl (by omega) HH.out (j + 2) (at2 HJ.out) rfl (m := m) rfl (by rw [bytes_length]; have := HM.out; omega) hR (bytes_one B) (by simp only [maxLen]; omega) (by omega) ?_
  intro v7 w7 hh7 h7
  obtain ⟨A7, c7, rfl⟩ := h7
  have HH := Lib.hid (show Heap w0 (_ :: _ :: its.set j _) w7 from set2 hh7)
  clear hh7
  have HI2 := Lib.hid (fun z => at_other HI.out HIJ.out z)
  go_upto_region 4 with (refine shl_store1 HH.out rfl rfl rfl rfl (i + 2) (at2 (HI2.out _)) rfl rfl (by kernel_rfl) ?_; clear HH; intro wS HHS; have HH := Lib.hid HHS; clear HHS)
  have HH2 := Lib.hid (show Heap w0 (_ :: _ :: (its.set j (.row 5 1 (.slice A7 (n + m) c7) (n + m) (bytes out ++ bytes B))).set i (.box b [.slice A7 (n + m) c7, .int .u64 ua, .int .u64 ub, .int .u64 uc, .int .u64 ud])) wS from set2 HH.out)
  have HI3 := Lib.hid (at_set2 HI.out HIJ.out (.row 5 1 (.slice A7 (n + m) c7) (n + m) (bytes out ++ bytes B)) (.box b [.slice A7 (n + m) c7, .int .u64 ua, .int .u64 ub, .int .u64 uc, .int .u64 ud]))
  clear HH
  have HH := HH2
  clear HH2
  go_wp2_with (refine shl_load HH.out sizeSu (by kernel_rfl) rfl rfl rfl (i + 2) (at2 HI3.out) rfl ?_)
  refine (ffeed_any wS ⟨ua, ub, uc, ud⟩ A2 m c2 B HM.out ((Rd.of_own (HH.out.rowAt 0 rfl)).more (Nat.zero_le _) (Nat.le_refl _)) k1 (by omega)).mono ?_
  rintro e w4 ⟨rfl, e4⟩
  have HH4 := Lib.hid (HH.out.later e4)
  clear HH e4
  have HH := HH4
  clear HH4
  simp only [Su.cells]
  go_wp2_with (refine shl_store HH.out sizeSu rfl rfl rfl rfl (i + 2) (at2 HI3.out) rfl rfl rfl ?_; clear HH; intro wS HHS; have HH := Lib.hid HHS; clear HHS)
  go_end0
  refine ⟨rfl, .slice A7 (n + m) c7, ?_⟩
  have h9 := (set2 HH.out).tail.tail
  rw [set_set] at h9
  rw [bytes_append]
  exact h9
end Go.Proofs.YtmecjjmlccdppaaGreatDoor
/- What a stream's last record is: it may be, and its sum is one. -/
namespace Go.Proofs.YtmecjjmlccdppaaGreatDoor
open Go.RowKit
theorem stp_wf (s : Su) (x : Int) : (stp s x).wf := by
  simp only [Su.wf, stp, IntKind.wrap]
  simp [IntKind.bits, IntKind.signed]; omega
theorem feed_wf (s : Su) (l : List UInt8) (h : s.wf) : (feed s l).wf := by
  unfold feed
  generalize words l = xs
  induction xs generalizing s with
  | nil => exact h
  | cons x r ih => exact ih _ (stp_wf s x)
def sumRec (s : Su) : Rec := ⟨4, ⟨#[]⟩, 0, 0, none, 0, 0, [], 0, 0, ⟨#[]⟩, s.a, s.b, s.c, s.d⟩
theorem sumRec_ok (s : Su) : recE (sumRec s) = 0 := by
  simp [recE, sumRec, mayB]
theorem sumRec_wf (s : Su) : (sumRec s).wf := by
  constructor <;> simp [sumRec] <;> decide
theorem Su.zero_wf : Su.zero.wf := by simp [Su.wf, Su.zero]
end Go.Proofs.YtmecjjmlccdppaaGreatDoor
/- Lists of properties laid over one another: the plain law. No program. -/
namespace Go.Proofs.YtmecjjmlccdppaaGreatDoor
open Go.RowKit
set_option linter.unusedVariables false

theorem lessB_iff (a b : ByteArray) : lessB a b = true ↔ a.toList < b.toList := by rw [lessB, Go.Proofs.bytesLess_eq, decide_eq_true_eq]
theorem lessB_not (a b : ByteArray) : lessB a b = false ↔ b.toList ≤ a.toList := by rw [lessB, Go.Proofs.bytesLess_eq, decide_eq_false_iff_not, List.not_lt]
def sameN (p y : Prp) : Bool := y.name.toList == p.name.toList
def insP (p : Prp) : List Prp → List Prp
  | [] => [p]
  | y :: r => if lessB p.name y.name then p :: y :: r else y :: insP p r
def putP (l : List Prp) (p : Prp) : List Prp := insP p (l.filter fun y => !sameN p y)
def overP (ps : List Prp) : List Prp := ps.foldl putP []
def SortP (l : List Prp) : Prop := l.Pairwise fun x y => lessB x.name y.name = true
theorem mem_insP {p y : Prp} : ∀ {l : List Prp}, y ∈ insP p l → y = p ∨ y ∈ l
  | [], h => .inl (by simpa [insP] using h)
  | z :: r, h => by
    unfold insP at h
    split at h
    · simpa using h
    · rcases List.mem_cons.1 h with h | h
      · exact .inr (by simp [h])
      · rcases mem_insP h with h | h
        · exact .inl h
        · exact .inr (by simp [h])
theorem insP_sorted (p : Prp) : ∀ (l : List Prp), SortP l → (∀ y ∈ l, y.name.toList ≠ p.name.toList) → SortP (insP p l)
  | [], _, _ => by simp [insP, SortP]
  | z :: r, h, hn => by
    unfold insP
    have h' := List.pairwise_cons.1 h
    split
    · rename_i hl
      refine List.pairwise_cons.2 ⟨fun y hy => ?_, h⟩
      rcases List.mem_cons.1 hy with rfl | hy
      · exact hl
      · have h2 := h'.1 y hy
        rw [lessB_iff] at h2 hl ⊢
        exact List.lt_trans hl h2
    · rename_i hl
      refine List.pairwise_cons.2 ⟨fun y hy => ?_, insP_sorted p r h'.2 fun y hy => hn y (by simp [hy])⟩
      rcases mem_insP hy with rfl | hy
      · rw [Bool.not_eq_true, lessB_not] at hl
        rw [lessB_iff]
        exact Std.lt_of_le_of_ne hl (hn z (by simp))
      · exact h'.1 y hy
theorem SortP.filter {l : List Prp} (h : SortP l) (q : Prp → Bool) : SortP (l.filter q) := List.Pairwise.sublist List.filter_sublist h
theorem putP_sorted {l : List Prp} (h : SortP l) (p : Prp) : SortP (putP l p) := insP_sorted p _ (h.filter _) fun y hy => by
  have := (List.mem_filter.1 hy).2
  simpa [sameN] using this
theorem fold_sorted : ∀ (ps l : List Prp), SortP l → SortP (ps.foldl putP l)
  | [], l, h => h
  | p :: ps, l, h => fold_sorted ps _ (putP_sorted h p)
theorem overP_sorted (ps : List Prp) : SortP (overP ps) := fold_sorted ps [] List.Pairwise.nil
theorem insP_len (p : Prp) : ∀ l : List Prp, (insP p l).length = l.length + 1
  | [] => rfl
  | z :: r => by
    unfold insP
    split
    · rfl
    · simp [insP_len p r]
theorem putP_len (l : List Prp) (p : Prp) : (putP l p).length ≤ l.length + 1 := by
  rw [putP, insP_len]
  have := List.length_filter_le (fun y => !sameN p y) l
  omega
theorem fold_len : ∀ (ps l : List Prp), (ps.foldl putP l).length ≤ l.length + ps.length
  | [], l => Nat.le_refl _
  | p :: ps, l => by
    have h1 := fold_len ps (putP l p)
    have h2 := putP_len l p
    simp only [List.foldl_cons, List.length_cons]
    omega
theorem overP_len (ps : List Prp) : (overP ps).length ≤ ps.length := by
  have := fold_len ps []
  rw [List.length_nil, Nat.zero_add] at this
  exact this
theorem mem_putP {p y : Prp} {l : List Prp} (h : y ∈ putP l p) : y = p ∨ y ∈ l := by
  rcases mem_insP h with h | h
  · exact .inl h
  · exact .inr (List.mem_filter.1 h).1
theorem mem_fold {y : Prp} : ∀ {ps l : List Prp}, y ∈ ps.foldl putP l → y ∈ l ∨ y ∈ ps
  | [], l, h => .inl h
  | p :: ps, l, h => by
    rcases mem_fold (ps := ps) h with h | h
    · rcases mem_putP h with h | h
      · exact .inr (by simp [h])
      · exact .inl h
    · exact .inr (by simp [h])
theorem mem_overP {y : Prp} {ps : List Prp} (h : y ∈ overP ps) : y ∈ ps := by
  rcases mem_fold h with h | h
  · cases h
  · exact h
theorem overP_snoc (ps : List Prp) (p : Prp) : overP (ps ++ [p]) = putP (overP ps) p := by simp [overP, List.foldl_append]
/-- the reference's way -/
def rputP (p : Prp) : List Prp → List Prp
  | [] => [p]
  | y :: r => if lessB y.name p.name then y :: rputP p r else p :: (y :: r).filter fun y => !sameN p y
theorem insP_front (p : Prp) (l : List Prp) (h : ∀ y ∈ l, lessB p.name y.name = true) : insP p l = p :: l := by
  cases l with
  | nil => rfl
  | cons y r => rw [insP, if_pos (h y (by simp))]
theorem rputP_eq (p : Prp) : ∀ (l : List Prp), SortP l → rputP p l = putP l p
  | [], _ => rfl
  | y :: r, h => by
    have h' := List.pairwise_cons.1 h
    unfold rputP
    split
    · rename_i hl
      have hl2 := (lessB_iff _ _).1 hl
      have hne : sameN p y = false := by
        rw [sameN, beq_eq_false_iff_ne]
        exact Std.ne_of_lt hl2
      have hnl : lessB p.name y.name = false := (lessB_not _ _).2 (Std.le_of_lt hl2)
      rw [putP, List.filter_cons_of_pos (by simp [hne]), insP, if_neg (by simp [hnl]), rputP_eq p r h'.2]
      rfl
    · rename_i hl
      rw [putP, insP_front]
      intro z hz
      obtain ⟨hz1, hz2⟩ := List.mem_filter.1 hz
      have hle : p.name.toList ≤ y.name.toList := (lessB_not _ _).1 (by simpa using hl)
      have hne : z.name.toList ≠ p.name.toList := by simpa [sameN] using hz2
      rw [lessB_iff]
      rcases List.mem_cons.1 hz1 with rfl | hz1
      · exact Std.lt_of_le_of_ne hle (Ne.symm hne)
      · have := (lessB_iff _ _).1 (h'.1 z hz1)
        exact Std.lt_of_le_of_lt hle this
def rstep (p : Prp) (s : List Prp × Bool) (y : Prp) : List Prp × Bool :=
  if s.2 = false ∧ lessB y.name p.name = false then (s.1 ++ [p] ++ (if sameN p y then [] else [y]), true) else (s.1 ++ (if sameN p y then [] else [y]), s.2)
def rfold (p : Prp) (l : List Prp) : List Prp × Bool := l.foldl (rstep p) ([], false)
theorem rfold_snoc (p : Prp) (l : List Prp) (y : Prp) : rfold p (l ++ [y]) = rstep p (rfold p l) y := by simp [rfold, List.foldl_append]
theorem rfold_true (p : Prp) : ∀ (l o : List Prp), l.foldl (rstep p) (o, true) = (o ++ l.filter (fun y => !sameN p y), true)
  | [], o => by simp
  | y :: r, o => by
    rw [List.foldl_cons]
    have : rstep p (o, true) y = (o ++ (if sameN p y then [] else [y]), true) := by simp [rstep]
    rw [this, rfold_true p r]
    cases h : sameN p y <;> simp [h]
theorem rfold_false (p : Prp) : ∀ (l o : List Prp), (if (l.foldl (rstep p) (o, false)).2 then (l.foldl (rstep p) (o, false)).1 else (l.foldl (rstep p) (o, false)).1 ++ [p]) = o ++ rputP p l
  | [], o => by simp [rputP]
  | y :: r, o => by
    rw [List.foldl_cons]
    cases hl : lessB y.name p.name with
    | true =>
      have hne : sameN p y = false := by
        rw [sameN, beq_eq_false_iff_ne]
        exact Std.ne_of_lt ((lessB_iff _ _).1 hl)
      have : rstep p (o, false) y = (o ++ [y], false) := by simp [rstep, hl, hne]
      rw [this, rfold_false p r, rputP, if_pos hl]
      simp
    | false =>
      have : rstep p (o, false) y = (o ++ [p] ++ (if sameN p y then [] else [y]), true) := by simp [rstep, hl]
      rw [this, rfold_true, rputP]
      simp only [hl, Bool.false_eq_true, if_false, if_true]
      cases h : sameN p y <;> simp [h]
theorem rfold_end (p : Prp) (l : List Prp) (h : SortP l) : (if (rfold p l).2 then (rfold p l).1 else (rfold p l).1 ++ [p]) = putP l p := by
  rw [rfold, rfold_false, List.nil_append, rputP_eq p l h]
theorem rstep_len (p : Prp) (s : List Prp × Bool) (y : Prp) : (rstep p s y).1.length ≤ s.1.length + 2 := by
  unfold rstep
  cases sameN p y <;> split <;> simp <;> omega
theorem rfold_len (p : Prp) : ∀ (l : List Prp) (s : List Prp × Bool), (l.foldl (rstep p) s).1.length ≤ s.1.length + 2 * l.length
  | [], s => Nat.le_refl _
  | y :: r, s => by
    have h1 := rfold_len p r (rstep p s y)
    have h2 := rstep_len p s y
    simp only [List.foldl_cons, List.length_cons]
    omega
/-- what is told of lists that are laid over one another -/
def ovE (ls : List (List Prp)) : Int := if ls.all (fun xs => decide (prE xs = 0)) = false then 9 else if 8 < (overP ls.flatten).length then 3 else 0
def ovL (ls : List (List Prp)) : List Prp := if ovE ls = 0 then overP ls.flatten else []
theorem prE_len {xs : List Prp} (h : prE xs = 0) : xs.length ≤ 8 := by
  unfold prE at h
  split at h
  · cases h
  · omega
theorem all_len : ∀ {ls : List (List Prp)}, ls.all (fun xs => decide (prE xs = 0)) = true → ls.flatten.length ≤ 8 * ls.length
  | [], _ => Nat.le_refl _
  | xs :: ls, h => by
    simp only [List.all_cons, Bool.and_eq_true, decide_eq_true_eq] at h
    have h1 := prE_len h.1
    have h2 := all_len h.2
    simp only [List.flatten_cons, List.length_append, List.length_cons]
    omega
end Go.Proofs.YtmecjjmlccdppaaGreatDoor
