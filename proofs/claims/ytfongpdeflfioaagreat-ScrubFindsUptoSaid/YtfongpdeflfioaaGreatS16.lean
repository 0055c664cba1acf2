/- The texts Cm1 in one file. -/
import Derived.Test.YtfongpdeflfioaaGreatS12
import Derived.Test.YtfongpdeflfioaaGreatS15
/- store.Commit's deferred function, and Commit's ends. -/
namespace Go.Proofs.YtfongpdeflfioaaGreat
open Go.RowKit Go.Maps Go.Sort Go.Shelf
set_option linter.unusedVariables false
set_option linter.unusedSimpArgs false
section
variable {P : Program} {ops : Array Oper} {Q : Exit → Act → List Frame → World → Prop} {i : Nat} {rest : List Nat} {a : Act} {cs cs' : List Frame} {w w' : World} {o : Oper} {v : Value}
structure WS (P : Program) (ops : Array Oper) (Q : Exit → Act → List Frame → World → Prop) (l : List Nat) (a : Act) (cs : List Frame) (w : World) : Prop where
  out : wpOpsS P ops Q l a cs w
theorem ws_region {id : Nat} {l : List Nat} (hl : List.range ops.size = l) (h : WS P ops Q l a cs w) : (Code.region id ops false).wpS P Q a cs w := wpS_region (hl ▸ h.out)
theorem ws_val (h : ops[i]? = some o) (hw : Region.wanted o (yielded ops a.tmps) = true) (hr : (execOp a.eval o).run P w = .ok (.value v) w') (k : WS P ops Q rest (a.put o.dst v) cs w') : WS P ops Q (i :: rest) a cs w := by
  constructor
  simp only [wpOpsS, h, if_pos hw, hr]
  exact k.out
theorem ws_rec (h : ops[i]? = some o) (hw : Region.wanted o (yielded ops a.tmps) = true) (hr : (execOp a.eval o).run P w = .ok .recover w') (hd : recoverD cs = some (v, cs')) (k : WS P ops Q rest (a.put o.dst v) cs' w') : WS P ops Q (i :: rest) a cs w := by
  constructor
  simp only [wpOpsS, h, if_pos hw, hr, hd]
  exact k.out
theorem ws_rec0 (h : ops[i]? = some o) (hw : Region.wanted o (yielded ops a.tmps) = true) (hr : (execOp a.eval o).run P w = .ok .recover w') (hd : recoverD cs = none) (k : WS P ops Q rest (a.put o.dst .nilIface) cs w') : WS P ops Q (i :: rest) a cs w := by
  constructor
  simp only [wpOpsS, h, if_pos hw, hr, hd]
  exact k.out
theorem ws_end (k : Q .normal a cs w) : WS P ops Q [] a cs w := ⟨k⟩
end
abbrev zSto : List Value := [.slice none 0 0, .slice none 0 0, .int .i64 0, .int .i64 0, .int .i64 0, .slice none 0 0, .slice none 0 0]
set_option maxRecDepth 100000 in
set_option maxHeartbeats 4000000 in
theorem cm1_panic {w0 w : World} {its : List It} {ob ab eb : Nat} {x0 x1 x2 x3 x4 x5 x6 av ev : Value} (q : Int) (older : List PanicEntry)
    (HH : Hid (Heap w0 (.box ob [x0, x1, x2, x3, x4, x5, x6] :: .box ab [av] :: .box eb [ev] :: its) w)) :
    CallsD Tryz.prog 53 #[.pointer (some ⟨ob, 0, none⟩), .pointer (some ⟨ab, 0, none⟩), .pointer (some ⟨eb, 0, none⟩)] (.panicking ({ v := errV q, recovered := false } :: older)) w fun e u' w' =>
      e = .returned (.tuple #[]) ∧ u' = .panicking ({ v := errV q, recovered := true } :: older) ∧ Heap w0 (.box ob zSto :: .box ab [.slice none 0 0] :: .box eb [.int .i64 q] :: its) w' := by
  refine callsD_of_wpS Tryz.func53 rfl fun c₀ cs hu => ?_
  simp only [Tryz.ntmps53, List.size_toArray, List.length_cons, List.length_nil, Nat.reduceAdd, Nat.reduceSub, Array.replicate_succ, Array.replicate_zero, List.push_toArray, List.append_toArray, List.nil_append, List.cons_append]
  apply wpS_seq
  apply ws_region (l := [0,1,2,3,4,5,6]) rfl
  refine ws_rec (w' := w) (cs' := { c₀ with mode := .panicking ({ v := errV q, recovered := true } :: older) } :: cs) (v := errV q) rfl (by kernel_rfl) (by rfl) (by simp only [recoverD, hu]) ?_
  simp only [Act.put]
  refine ws_val (w' := w) (v := .tuple #[.int .i64 q, .bool true]) rfl (by kernel_rfl) (by kernel_rfl) ?_
  refine ws_val (w' := w) (v := .tuple #[.int .i64 q, .bool true]) rfl (by kernel_rfl) (by kernel_rfl) ?_
  refine ws_val (w' := w) (v := .int .i64 q) rfl (by kernel_rfl) (by kernel_rfl) ?_
  refine ws_val (w' := w) (v := .bool true) rfl (by kernel_rfl) (by kernel_rfl) ?_
  refine ws_val (w' := w) (v := .int .i64 q) rfl (by kernel_rfl) (by kernel_rfl) ?_
  refine ws_val (w' := w) (v := .bool true) rfl (by kernel_rfl) (by kernel_rfl) ?_
  refine ws_end ?_
  simp only [Exit.thenS]
  refine wpS_of_wp ?_
  go_wp2_with (first | (refine shl_store HH.out sizeSto rfl rfl rfl rfl 0 rfl rfl rfl rfl ?_; clear HH; intro wS HHS; have HH := Lib.hid HHS; clear HHS) | (refine shl_store1 HH.out rfl rfl rfl rfl 1 rfl rfl rfl (by kernel_rfl) ?_; clear HH; intro wS HHS; have HH := Lib.hid HHS; clear HHS) | (refine shl_store1 HH.out rfl rfl rfl rfl 2 rfl rfl rfl (by kernel_rfl) ?_; clear HH; intro wS HHS; have HH := Lib.hid HHS; clear HHS))
  exact ⟨rfl, .panicking ({ v := errV q, recovered := true } :: older), rfl, .tuple #[], by kernel_rfl, rfl, rfl, HH.out⟩
set_option maxRecDepth 100000 in
theorem cm1_idle {w0 w : World} {its : List It} {p1 p2 p3 : Value} (HH : Hid (Heap w0 its w)) :
    CallsD Tryz.prog 53 #[p1, p2, p3] .returning w fun e u' w' => e = .returned (.tuple #[]) ∧ u' = .returning ∧ Heap w0 its w' := by
  refine callsD_of_wpS Tryz.func53 rfl fun c₀ cs hu => ?_
  simp only [Tryz.ntmps53, List.size_toArray, List.length_cons, List.length_nil, Nat.reduceAdd, Nat.reduceSub, Array.replicate_succ, Array.replicate_zero, List.push_toArray, List.append_toArray, List.nil_append, List.cons_append]
  apply wpS_seq
  apply ws_region (l := [0,1,2,3,4,5,6]) rfl
  refine ws_rec0 (w' := w) rfl (by kernel_rfl) (by rfl) (by simp only [recoverD, hu]) ?_
  simp only [Act.put]
  refine ws_val (w' := w) (v := .tuple #[.int .i64 0, .bool false]) rfl (by kernel_rfl) (by kernel_rfl) ?_
  refine ws_val (w' := w) (v := .tuple #[.int .i64 0, .bool false]) rfl (by kernel_rfl) (by kernel_rfl) ?_
  refine ws_val (w' := w) (v := .int .i64 0) rfl (by kernel_rfl) (by kernel_rfl) ?_
  refine ws_val (w' := w) (v := .bool false) rfl (by kernel_rfl) (by kernel_rfl) ?_
  refine ws_val (w' := w) (v := .int .i64 0) rfl (by kernel_rfl) (by kernel_rfl) ?_
  refine ws_val (w' := w) (v := .bool false) rfl (by kernel_rfl) (by kernel_rfl) ?_
  refine ws_end ?_
  simp only [Exit.thenS]
  refine wpS_of_wp ?_
  go_wp2_with fail
  refine ⟨rfl, .returning, ?_, .tuple #[], by kernel_rfl, rfl, rfl, HH.out⟩
  cases c₀
  simp_all
section
variable {P : Program} {w0 w : World} {its : List It} {fn : Func} {R : Ending → World → Prop} {tmps : Array Value}
theorem sh_loadVar1 {t : TypeId} {b p : Nat} {vs : List Value} {v : Value} (H : Heap w0 its w) (hk : rowK P t = some false) (i : Nat) (hi : its[i]? = some (.box b vs)) (hv : vs[p]? = some v) :
    (loadVar t ⟨b, p, none⟩).run P w = .ok v w := by
  have hc := (H.boxAt i hi).cell p v hv
  simp [loadVar, run_isAgg_of hk, load, Sem.run, hc]
theorem leave3 {t u s : TypeId} {x y z b c d n : Nat} {vs : List Value} {v v2 : Value} (hs : (P.info? t).map (·.size) = some n) (kt : rowK P t = some true) (ku : rowK P u = some false) (ks : rowK P s = some false) (H : Heap w0 its w) (hres : fn.results = #[.cell x t, .cell y u, .cell z s])
    (hx : tmps.getD x undef = .pointer (some ⟨b, 0, none⟩)) (hy : tmps.getD y undef = .pointer (some ⟨c, 0, none⟩)) (hz : tmps.getD z undef = .pointer (some ⟨d, 0, none⟩)) (i j k : Nat) (hi : its[i]? = some (.box b vs)) (hl : Nat.ble n vs.length = true) (hj : its[j]? = some (.box c [v])) (hk : its[k]? = some (.box d [v2]))
    (hR : R (.returned (.tuple #[.agg (vs.take n).toArray, v, v2])) w) : Leaves P fn tmps R [] .returning w := by
  refine ⟨_, ?_, hR⟩
  have h0 := sh_loadVar (p := 0) H hs kt i hi (by rw [Nat.zero_add]; exact Nat.le_of_ble_eq_true hl)
  have h1 := sh_loadVar1 (p := 0) H ku j hj rfl
  have h2 := sh_loadVar1 (p := 0) H ks k hk rfl
  have hx' : tmps[x]?.getD undef = .pointer (some ⟨b, 0, none⟩) := by simpa using hx
  have hy' : tmps[y]?.getD undef = .pointer (some ⟨c, 0, none⟩) := by simpa using hy
  have hz' : tmps[z]?.getD undef = .pointer (some ⟨d, 0, none⟩) := by simpa using hz
  rw [List.drop_zero] at h0
  simp only [results, hres]
  simp [asAddr, hx', hy', hz', h0, h1, h2]
end
section
variable {w0 w : World} {its : List It} {R : Ending → World → Prop} {tmps : Array Value}
abbrev cmDs (ob ab eb : Nat) : List Deferred := [⟨.fn (.func 53) #[.pointer (some ⟨ob, 0, none⟩), .pointer (some ⟨ab, 0, none⟩), .pointer (some ⟨eb, 0, none⟩)], #[]⟩]
theorem cm_panic {ob ab eb : Nat} {x0 x1 x2 x3 x4 x5 x6 av ev : Value} (q : Int) (H : Heap w0 (.box ob [x0, x1, x2, x3, x4, x5, x6] :: .box ab [av] :: .box eb [ev] :: its) w)
    (h4 : tmps.getD 4 undef = .pointer (some ⟨ob, 0, none⟩)) (h5 : tmps.getD 5 undef = .pointer (some ⟨ab, 0, none⟩)) (h6 : tmps.getD 6 undef = .pointer (some ⟨eb, 0, none⟩)) (hR : ∀ w', Ext w0 w' → R (.returned (.tuple #[.agg zSto.toArray, .slice none 0 0, .int .i64 q])) w') :
    Leaves Tryz.prog Tryz.f20 tmps R (cmDs ob ab eb) (.panicking [{ v := errV q, recovered := false }]) w := by
  refine leaves_cons (f := 53) (args := #[.pointer (some ⟨ob, 0, none⟩), .pointer (some ⟨ab, 0, none⟩), .pointer (some ⟨eb, 0, none⟩)]) (by simp) (by simp [go_sem]) ?_
  refine (cm1_panic q [] (Lib.hid H)).mono ?_
  rintro e u' w'' ⟨rfl, rfl, H2⟩
  simp only [settle, List.dropWhile]
  refine leave3 sizeSto (by kernel_rfl) (by kernel_rfl) (by kernel_rfl) H2 rfl h4 h5 h6 0 1 2 rfl rfl rfl rfl (hR _ H2.ext)
theorem cm_idle {ob ab eb : Nat} {x0 x1 x2 x3 x4 x5 x6 av ev : Value} (H : Heap w0 (.box ob [x0, x1, x2, x3, x4, x5, x6] :: .box ab [av] :: .box eb [ev] :: its) w)
    (h4 : tmps.getD 4 undef = .pointer (some ⟨ob, 0, none⟩)) (h5 : tmps.getD 5 undef = .pointer (some ⟨ab, 0, none⟩)) (h6 : tmps.getD 6 undef = .pointer (some ⟨eb, 0, none⟩)) (hR : ∀ w', Heap w0 (.box ob [x0, x1, x2, x3, x4, x5, x6] :: .box ab [av] :: .box eb [ev] :: its) w' → R (.returned (.tuple #[.agg #[x0, x1, x2, x3, x4, x5, x6], av, ev])) w') :
    Leaves Tryz.prog Tryz.f20 tmps R (cmDs ob ab eb) .returning w := by
  refine leaves_cons (f := 53) (args := #[.pointer (some ⟨ob, 0, none⟩), .pointer (some ⟨ab, 0, none⟩), .pointer (some ⟨eb, 0, none⟩)]) (by simp) (by simp [go_sem]) ?_
  refine (cm1_idle (Lib.hid H)).mono ?_
  rintro e u' w'' ⟨rfl, rfl, H2⟩
  simp only [settle]
  refine leave3 sizeSto (by kernel_rfl) (by kernel_rfl) (by kernel_rfl) H2 rfl h4 h5 h6 0 1 2 rfl rfl rfl rfl (hR _ H2)
end
end Go.Proofs.YtfongpdeflfioaaGreat
