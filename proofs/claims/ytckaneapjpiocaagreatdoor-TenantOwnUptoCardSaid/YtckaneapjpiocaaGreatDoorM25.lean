/- The texts Sg, Ob1, Rr10, Rr11 in one file. -/
import Derived.Test.YtckaneapjpiocaaGreatDoorM24
import Derived.Defers
import Derived.Recover
import Derived.Test.YtckaneapjpiocaaGreatDoorM18
import Derived.Test.YtckaneapjpiocaaGreatDoorM11
import Derived.Test.YtckaneapjpiocaaGreatDoorM2
namespace Go.Proofs.YtckaneapjpiocaaGreatDoor
open Go.RowKit Go.Maps Go.Sort Go.Shelf
set_option linter.unusedVariables false
set_option linter.unusedSimpArgs false
set_option maxRecDepth 100000 in
theorem bit_any (w : World) (is : Bool) : Calls Tryz.prog 94 #[.bool is] w fun e w' => e = .returned (.int .i64 (if is = true then 1 else 0)) ∧ w' = w := by
  go_enter Tryz.func94, Tryz.ntmps94
  cases is with
  | true =>
    go_wp2_with fail
    go_ret
    exact ⟨rfl, rfl⟩
  | false =>
    go_wp2_with fail
    go_ret
    exact ⟨rfl, rfl⟩
set_option maxRecDepth 100000 in
set_option maxHeartbeats 8000000 in
theorem stage_any (w : World) (name : ByteArray) (x : Stg) (h : Stg.At w 0 w.heap.size x) (hb : bkE x.body = 0) (hr : recE x.beg = 0) (hE : wE (stgT x) = 0) (hnm : sml name) :
    Calls Tryz.prog 40 #[.string name, .agg x.cells.toArray] w fun e w' => ObjOk w w' (keyO [kG, name, x.into]) (flat (stgT x)) e := by
  have HNm := Lib.hid hnm
  have HPa := Lib.hid h.into
  have HEs := Lib.hid hE
  have HBo := Lib.hid (fun W (hW : Ext w W) => bocts_any W x.bA x.bn x.bc x.body h.bodyN (Rd.at h.bodyR hW (Nat.le_refl _)) h.bodyW hb)
  have HBl := Lib.hid (show (blkO x.body).length ≤ 100000000 by
    obtain ⟨q1, q2⟩ := bk_small _ hb
    have := blkO_len _ q2
    omega)
  have HEn := Lib.hid (fun W (hW : Ext w W) => show Calls Tryz.prog 92 #[.agg x.beg.cells.toArray] W fun e w' => ∃ v, e = .returned (.tuple #[v, .int .i64 0]) ∧ w'.ownsRow W.heap.size 5 1 v (encB x.beg).length (bytes (encB x.beg)) ∧ Ext W w' from
    (encode_any W x.beg (Rd.at h.begR hW (Nat.le_refl _)) h.beg (Nat.le_trans h.begN (by decide)) h.begS).mono (fun e w' q => by
      obtain ⟨v, h1, h2, h3⟩ := q
      rw [hr] at h1
      exact ⟨v, h1, h2, h3⟩))
  have HEl := Lib.hid (Nat.le_trans (encB_len x.beg) (show 1000 ≤ 100000000 by decide))
  have HSo := Lib.hid (fun W => octets_any x.su W h.su)
  have HSl := Lib.hid (sumO_length x.su)
  have HPo := Lib.hid (lit_bd h.pos)
  have HNe := Lib.hid (lit_bd h.next)
  clear h hb hr hnm hE
  obtain ⟨into, ⟨rk, rn, rf, rg, rA, rm, rc, rw_, ri, ro, rd, r0, r1, r2, r3⟩, bA, bn, bc, bd, po, nx, ⟨u0, u1, u2, u3⟩, dn⟩ := x
  obtain ⟨T, hT⟩ : ∃ T, T = stgT ⟨into, ⟨rk, rn, rf, rg, rA, rm, rc, rw_, ri, ro, rd, r0, r1, r2, r3⟩, bA, bn, bc, bd, po, nx, ⟨u0, u1, u2, u3⟩, dn⟩ := ⟨_, rfl⟩
  have HT := Lib.hid hT
  rw [← hT] at HEs ⊢
  simp only [stgT] at HT
  clear hT
  dsimp only at HPa HBo HBl HEn HEl HSo HSl HPo HNe HT ⊢
  obtain ⟨q, hq⟩ : ∃ q : Int, q = if dn = true then 1 else 0 := ⟨_, rfl⟩
  have HBit := Lib.hid (fun W => show Calls Tryz.prog 94 #[.bool dn] W fun e w' => e = .returned (.int .i64 q) ∧ w' = W from by rw [hq]; exact bit_any W dn)
  have Hq := Lib.hid (show 0 ≤ q ∧ q ≤ 1 by rw [hq]; split <;> omega)
  rw [← hq] at HT
  clear hq
  generalize encB _ = EB at *
  generalize sumO _ = SB at *
  simp only [Stg.cells, Rec.cells, Su.cells, List.cons_append, List.nil_append] at *
  go_enter Tryz.func40, Tryz.ntmps40
  go_upto_region 1 with fail
  generalize hwH : World.alloc (World.alloc w _) _ = w1; have HH := Lib.hid (Heap.two hwH); clear hwH
  go_upto_region 2 with fail
  generalize hwA : World.alloc w1 _ = w2
  have HH2 := Lib.hid (wtr0 (HH.out.allocE hwA))
  clear hwA HH
  generalize w1.heap.size = wb at *
  have HH := HH2
  clear HH2
  have HLen := Lib.hid (Nat.zero_le 1)
  go_wp2_with (refine shl_load HH.out sizeRec (by kernel_rfl) rfl rfl rfl 3 rfl rfl ?_)
  refine (HEn.out w2 HH.out.ext).mono ?_; rintro e w3o ⟨vw3, rfl, hown, ew3⟩; obtain ⟨Aow3, cow3, rfl, _, _, _⟩ := own_form hown; have HHa := Lib.hid (HH.out.addRow ew3 hown); clear HH hown ew3; go_wp2_with fail; refine (wr_octets _ _ _ _ (EB) HHa.out.tail _ _ _ rfl HEl.out ((HHa.out.rowRd 0 rfl).m0) (by have q0 := HLen.out; (try simp only [List.length_append, List.length_cons, List.length_nil, List.length_map, ownT_len]); omega)).mono ?_; rintro e w3 ⟨rfl, Aw3, cw3, hw3⟩; have HH := Lib.hid hw3; clear hw3 HHa
  go_wp2_with (refine shl_load1 HH.out rfl rfl rfl 3 rfl rfl (by decide +kernel) ?_)
  refine (HBo.out w3 HH.out.ext).mono ?_; rintro e w4o ⟨vw4, rfl, hown, ew4⟩; obtain ⟨Aow4, cow4, rfl, _, _, _⟩ := own_form hown; have HHa := Lib.hid (HH.out.addRow ew4 hown); clear HH hown ew4; go_wp2_with fail; refine (wr_octets _ _ _ _ (blkO bd) HHa.out.tail _ _ _ rfl HBl.out ((HHa.out.rowRd 0 rfl).m0) (by have q0 := HLen.out; (try simp only [List.length_append, List.length_cons, List.length_nil, List.length_map, ownT_len]); omega)).mono ?_; rintro e w4 ⟨rfl, Aw4, cw4, hw4⟩; have HH := Lib.hid hw4; clear hw4 HHa
  go_wp2_with (refine shl_load1 HH.out rfl rfl rfl 3 rfl rfl (by decide +kernel) ?_)
  generalize hwA : World.alloc _ _ = w5a; have HHa := Lib.hid (HH.out.allocE hwA); clear hwA HH; refine (wr_number _ _ _ _ [po, nx] HHa.out.tail _ _ _ rfl ((HHa.out.boxRd 0 rfl).m0) (by have q0 := HLen.out; (try simp only [List.length_append, List.length_cons, List.length_nil, List.length_map, ownT_len]); omega) (by intro z hz; simp only [List.mem_cons, List.not_mem_nil, or_false] at hz; have q1 := HPo.out; have q2 := HNe.out; omega)).mono ?_; rintro e w5 ⟨rfl, Aw5, cw5, hw5⟩; have HH := Lib.hid hw5; clear hw5 HHa
  go_wp2_with (refine shl_load HH.out sizeSu (by kernel_rfl) rfl rfl rfl 3 rfl rfl ?_)
  refine (HSo.out w5).mono ?_
  rintro e w6o ⟨v6, rfl, hown, e6⟩
  obtain ⟨Ao6, co6, rfl, _, _, _⟩ := own_form hown
  have HHa := Lib.hid (HH.out.addRow e6 hown)
  clear HH hown e6
  go_wp2_with fail
  refine (wr_octets _ _ _ _ SB HHa.out.tail _ _ _ HSl.out.symm (by decide) ((HHa.out.rowRd 0 rfl).m0) (by have q0 := HLen.out; (try simp only [List.length_append, List.length_cons, List.length_nil, List.length_map, ownT_len]); omega)).mono ?_
  rintro e w6 ⟨rfl, Aw6, cw6, h6⟩
  have HH := Lib.hid h6
  clear h6 HHa
  go_wp2_with (refine shl_load1 HH.out rfl rfl rfl 3 rfl rfl (by decide +kernel) ?_)
  refine (HBit.out _).mono ?_
  rintro e w6b ⟨rfl, rfl⟩
  go_wp2_with fail
  generalize hwA : World.alloc _ _ = w7a; have HHa := Lib.hid (HH.out.allocE hwA); clear hwA HH; refine (wr_number _ _ _ _ [q] HHa.out.tail _ _ _ rfl ((HHa.out.boxRd 0 rfl).m0) (by have q0 := HLen.out; (try simp only [List.length_append, List.length_cons, List.length_nil, List.length_map, ownT_len]); omega) (by intro z hz; simp only [List.mem_cons, List.not_mem_nil, or_false] at hz; have q1 := Hq.out; omega)).mono ?_; rintro e w7 ⟨rfl, Aw7, cw7, hw7⟩; have HH := Lib.hid hw7; clear hw7 HHa
  have HH2 := Lib.hid (show Heap w (wtr wb Aw7 cw7 T _) w7 by rw [HT.out]; simpa using HH.out)
  clear HH HT
  have HH := HH2
  clear HH2
  go_wp2_with (refine shl_load1 HH.out rfl rfl rfl 3 rfl rfl (by decide +kernel) ?_)
  generalize hwA : World.alloc _ _ = w9
  have HHa := Lib.hid (HH.out.allocE hwA)
  clear hwA HH
  refine (wr_object _ _ _ _ [kG, name, into] HHa.out.tail _ 3 3 rfl (Nat.le_refl _) (by decide) ((HHa.out.boxRd 0 rfl).m0) HEs.out (by
    have q1 := key_size [kG, name, into]
    have q2 : kG.size = 1 := rfl
    have q3 : name.size ≤ 1048576 := HNm.out
    have q4 : into.size ≤ 1048576 := HPa.out
    simp only [List.map_cons, List.map_nil, List.sum_cons, List.sum_nil] at q1
    omega)).mono ?_
  rintro e w10 ⟨Ao, mo, co, rfl, hown, hmo, e10⟩
  have Hmo := Lib.hid hmo
  have HH := Lib.hid (HHa.out.tail.addRow e10 hown)
  clear hown hmo e10 HHa
  go_wp2_with (refine shl_store HH.out sizeObj rfl rfl rfl rfl 3 rfl rfl rfl rfl ?_; clear HH; intro wS HHS; have HH := Lib.hid HHS; clear HHS)
  refine ret_cell sizeObj (by kernel_rfl) HH.out rfl rfl 3 rfl rfl rfl ?_
  exact ⟨Ao, mo, co, rfl, HH.out.rowAt 0 rfl, Hmo.out, HH.out.ext⟩
open Go.RowKit Go.Maps Go.Sort Go.Shelf
set_option linter.unusedVariables false
set_option linter.unusedSimpArgs false
section
variable {P : Program} {ops : Array Oper} {Q : Exit → Act → List Frame → World → Prop} {i : Nat} {rest : List Nat} {a : Act} {cs cs' : List Frame} {w w' : World} {o : Oper} {v : Value}
structure WS (P : Program) (ops : Array Oper) (Q : Exit → Act → List Frame → World → Prop) (l : List Nat) (a : Act) (cs : List Frame) (w : World) : Prop where
  out : wpOpsS P ops Q l a cs w
theorem ws_region {id : Nat} {l : List Nat} (hl : List.range ops.size = l) (h : WS P ops Q l a cs w) : (Code.region id ops false).wpS P Q a cs w := wpS_region (hl ▸ h.out)
theorem ws_val (h : ops[i]? = some o) (hw : Region.wanted o (yielded ops a.tmps) = true) (hr : (execOp a.eval o).run P w = .ok (.value v) w') (k : WS P ops Q rest (a.put o.dst v) cs w') : WS P ops Q (i :: rest) a cs w := by
  constructor
  simp only [wpOpsS, h, if_pos hw, hr]
  exact k.out
theorem ws_rec (h : ops[i]? = some o) (hw : Region.wanted o (yielded ops a.tmps) = true) (hr : (execOp a.eval o).run P w = .ok .recover w') (hd : recoverD cs = some (v, cs')) (k : WS P ops Q rest (a.put o.dst v) cs' w') : WS P ops Q (i :: rest) a cs w := by
  constructor
  simp only [wpOpsS, h, if_pos hw, hr, hd]
  exact k.out
theorem ws_rec0 (h : ops[i]? = some o) (hw : Region.wanted o (yielded ops a.tmps) = true) (hr : (execOp a.eval o).run P w = .ok .recover w') (hd : recoverD cs = none) (k : WS P ops Q rest (a.put o.dst .nilIface) cs w') : WS P ops Q (i :: rest) a cs w := by
  constructor
  simp only [wpOpsS, h, if_pos hw, hr, hd]
  exact k.out
theorem ws_end (k : Q .normal a cs w) : WS P ops Q [] a cs w := ⟨k⟩
end
set_option maxRecDepth 100000 in
theorem ob1_idle {w0 w : World} {its : List It} {p1 p2 : Value} (HH : Hid (Heap w0 its w)) :
    CallsD Tryz.prog 37 #[p1, p2] .returning w fun e u' w' => e = .returned (.tuple #[]) ∧ u' = .returning ∧ Heap w0 its w' := by
  refine callsD_of_wpS Tryz.func37 rfl fun c₀ cs hu => ?_
  simp only [Tryz.ntmps37, List.size_toArray, List.length_cons, List.length_nil, Nat.reduceAdd, Nat.reduceSub, Array.replicate_succ, Array.replicate_zero, List.push_toArray, List.append_toArray, List.nil_append, List.cons_append]
  apply wpS_seq
  apply ws_region (l := [0,1,2,3,4,5,6]) rfl
  refine ws_rec0 (w' := w) rfl (by kernel_rfl) (by rfl) (by simp only [recoverD, hu]) ?_
  simp only [Act.put]
  refine ws_val (w' := w) (v := .tuple #[.int .i64 0, .bool false]) rfl (by kernel_rfl) (by kernel_rfl) ?_
  refine ws_val (w' := w) (v := .tuple #[.int .i64 0, .bool false]) rfl (by kernel_rfl) (by kernel_rfl) ?_
  refine ws_val (w' := w) (v := .int .i64 0) rfl (by kernel_rfl) (by kernel_rfl) ?_
  refine ws_val (w' := w) (v := .bool false) rfl (by kernel_rfl) (by kernel_rfl) ?_
  refine ws_val (w' := w) (v := .int .i64 0) rfl (by kernel_rfl) (by kernel_rfl) ?_
  refine ws_val (w' := w) (v := .bool false) rfl (by kernel_rfl) (by kernel_rfl) ?_
  refine ws_end ?_
  simp only [Exit.thenS]
  refine wpS_of_wp ?_
  go_wp2_with fail
  refine ⟨rfl, .returning, ?_, .tuple #[], by kernel_rfl, rfl, rfl, HH.out⟩
  cases c₀
  simp_all
section
variable {P : Program} {w0 w : World} {its : List It} {fn : Func} {R : Ending → World → Prop} {tmps : Array Value}
theorem sh_loadVar1 {t : TypeId} {b p : Nat} {vs : List Value} {v : Value} (H : Heap w0 its w) (hk : rowK P t = some false) (i : Nat) (hi : its[i]? = some (.box b vs)) (hv : vs[p]? = some v) :
    (loadVar t ⟨b, p, none⟩).run P w = .ok v w := by
  have hc := (H.boxAt i hi).cell p v hv
  simp [loadVar, run_isAgg_of hk, load, Sem.run, hc]
theorem leave2c {u s : TypeId} {y z c d : Nat} {v v2 : Value} (ku : rowK P u = some false) (ks : rowK P s = some false) (H : Heap w0 its w) (hres : fn.results = #[.cell y u, .cell z s])
    (hy : tmps.getD y undef = .pointer (some ⟨c, 0, none⟩)) (hz : tmps.getD z undef = .pointer (some ⟨d, 0, none⟩)) (j k : Nat) (hj : its[j]? = some (.box c [v])) (hk : its[k]? = some (.box d [v2]))
    (hR : R (.returned (.tuple #[v, v2])) w) : Leaves P fn tmps R [] .returning w := by
  refine ⟨_, ?_, hR⟩
  have h1 := sh_loadVar1 (p := 0) H ku j hj rfl
  have h2 := sh_loadVar1 (p := 0) H ks k hk rfl
  have hy' : tmps[y]?.getD undef = .pointer (some ⟨c, 0, none⟩) := by simpa using hy
  have hz' : tmps[z]?.getD undef = .pointer (some ⟨d, 0, none⟩) := by simpa using hz
  simp only [results, hres]
  simp [asAddr, hy', hz', h1, h2]
end
section
variable {w0 w : World} {its : List It} {R : Ending → World → Prop} {tmps : Array Value}
abbrev obDs (lb eb : Nat) : List Deferred := [⟨.fn (.func 37) #[.pointer (some ⟨lb, 0, none⟩), .pointer (some ⟨eb, 0, none⟩)], #[]⟩]
theorem ob_idle {lb eb i j : Nat} {lv ev : Value} (H : Heap w0 its w) (hi : its[i]? = some (.box lb [lv])) (hj : its[j]? = some (.box eb [ev]))
    (h4 : tmps.getD 2 undef = .pointer (some ⟨lb, 0, none⟩)) (h5 : tmps.getD 3 undef = .pointer (some ⟨eb, 0, none⟩)) (hR : ∀ w', Heap w0 its w' → R (.returned (.tuple #[lv, ev])) w') :
    Leaves Tryz.prog Tryz.f14 tmps R (obDs lb eb) .returning w := by
  refine leaves_cons (f := 37) (args := #[.pointer (some ⟨lb, 0, none⟩), .pointer (some ⟨eb, 0, none⟩)]) (by simp) (by simp [go_sem]) ?_
  refine (ob1_idle (Lib.hid H)).mono ?_
  rintro e u' w'' ⟨rfl, rfl, H2⟩
  simp only [settle]
  exact leave2c (by kernel_rfl) (by kernel_rfl) H2 rfl h4 h5 i j hi hj (hR _ H2)
end
open Go.RowKit Go.Maps Go.Sort Go.Shelf
set_option linter.unusedVariables false
set_option linter.unusedSimpArgs false
abbrev zTnt : List Value := [.string ⟨#[]⟩, .int .i64 0, .int .i64 0, .slice none 0 0, .slice none 0 0, .slice none 0 0, .slice none 0 0]
set_option maxRecDepth 100000 in
set_option maxHeartbeats 4000000 in
theorem rd1_panic {w0 w : World} {its : List It} {tb eb : Nat} {x0 x1 x2 x3 x4 x5 x6 ev : Value} (q : Int) (older : List PanicEntry) (HH : Hid (Heap w0 (.box tb [x0, x1, x2, x3, x4, x5, x6] :: .box eb [ev] :: its) w)) :
    CallsD Tryz.prog 45 #[.pointer (some ⟨tb, 0, none⟩), .pointer (some ⟨eb, 0, none⟩)] (.panicking ({ v := errV q, recovered := false } :: older)) w fun e u' w' =>
      e = .returned (.tuple #[]) ∧ u' = .panicking ({ v := errV q, recovered := true } :: older) ∧ Heap w0 (.box tb zTnt :: .box eb [.int .i64 q] :: its) w' := by
  refine callsD_of_wpS Tryz.func45 rfl fun c₀ cs hu => ?_
  simp only [Tryz.ntmps45, List.size_toArray, List.length_cons, List.length_nil, Nat.reduceAdd, Nat.reduceSub, Array.replicate_succ, Array.replicate_zero, List.push_toArray, List.append_toArray, List.nil_append, List.cons_append]
  apply wpS_seq
  apply ws_region (l := [0,1,2,3,4,5,6]) rfl
  refine ws_rec (w' := w) (cs' := { c₀ with mode := .panicking ({ v := errV q, recovered := true } :: older) } :: cs) (v := errV q) rfl (by kernel_rfl) (by rfl) (by simp only [recoverD, hu]) ?_
  simp only [Act.put]
  refine ws_val (w' := w) (v := .tuple #[.int .i64 q, .bool true]) rfl (by kernel_rfl) (by kernel_rfl) ?_
  refine ws_val (w' := w) (v := .tuple #[.int .i64 q, .bool true]) rfl (by kernel_rfl) (by kernel_rfl) ?_
  refine ws_val (w' := w) (v := .int .i64 q) rfl (by kernel_rfl) (by kernel_rfl) ?_
  refine ws_val (w' := w) (v := .bool true) rfl (by kernel_rfl) (by kernel_rfl) ?_
  refine ws_val (w' := w) (v := .int .i64 q) rfl (by kernel_rfl) (by kernel_rfl) ?_
  refine ws_val (w' := w) (v := .bool true) rfl (by kernel_rfl) (by kernel_rfl) ?_
  refine ws_end ?_
  simp only [Exit.thenS]
  refine wpS_of_wp ?_
  go_wp2_with (first | (refine shl_store HH.out sizeTnt rfl rfl rfl rfl 0 rfl rfl rfl rfl ?_; clear HH; intro wS HHS; have HH := Lib.hid HHS; clear HHS) | (refine shl_store1 HH.out rfl rfl rfl rfl 1 rfl rfl rfl (by kernel_rfl) ?_; clear HH; intro wS HHS; have HH := Lib.hid HHS; clear HHS))
  exact ⟨rfl, .panicking ({ v := errV q, recovered := true } :: older), rfl, .tuple #[], by kernel_rfl, rfl, rfl, HH.out⟩
set_option maxRecDepth 100000 in
theorem rd1_idle {w0 w : World} {its : List It} {p1 p2 : Value} (HH : Hid (Heap w0 its w)) :
    CallsD Tryz.prog 45 #[p1, p2] .returning w fun e u' w' => e = .returned (.tuple #[]) ∧ u' = .returning ∧ Heap w0 its w' := by
  refine callsD_of_wpS Tryz.func45 rfl fun c₀ cs hu => ?_
  simp only [Tryz.ntmps45, List.size_toArray, List.length_cons, List.length_nil, Nat.reduceAdd, Nat.reduceSub, Array.replicate_succ, Array.replicate_zero, List.push_toArray, List.append_toArray, List.nil_append, List.cons_append]
  apply wpS_seq
  apply ws_region (l := [0,1,2,3,4,5,6]) rfl
  refine ws_rec0 (w' := w) rfl (by kernel_rfl) (by rfl) (by simp only [recoverD, hu]) ?_
  simp only [Act.put]
  refine ws_val (w' := w) (v := .tuple #[.int .i64 0, .bool false]) rfl (by kernel_rfl) (by kernel_rfl) ?_
  refine ws_val (w' := w) (v := .tuple #[.int .i64 0, .bool false]) rfl (by kernel_rfl) (by kernel_rfl) ?_
  refine ws_val (w' := w) (v := .int .i64 0) rfl (by kernel_rfl) (by kernel_rfl) ?_
  refine ws_val (w' := w) (v := .bool false) rfl (by kernel_rfl) (by kernel_rfl) ?_
  refine ws_val (w' := w) (v := .int .i64 0) rfl (by kernel_rfl) (by kernel_rfl) ?_
  refine ws_val (w' := w) (v := .bool false) rfl (by kernel_rfl) (by kernel_rfl) ?_
  refine ws_end ?_
  simp only [Exit.thenS]
  refine wpS_of_wp ?_
  go_wp2_with fail
  refine ⟨rfl, .returning, ?_, .tuple #[], by kernel_rfl, rfl, rfl, HH.out⟩
  cases c₀
  simp_all
section
variable {P : Program} {w0 w : World} {its : List It} {fn : Func} {R : Ending → World → Prop} {tmps : Array Value}
theorem leave2s {t u : TypeId} {x y b c n : Nat} {vs : List Value} {v : Value} (hs : (P.info? t).map (·.size) = some n) (kt : rowK P t = some true) (ku : rowK P u = some false) (H : Heap w0 its w) (hres : fn.results = #[.cell x t, .cell y u])
    (hx : tmps.getD x undef = .pointer (some ⟨b, 0, none⟩)) (hy : tmps.getD y undef = .pointer (some ⟨c, 0, none⟩)) (i j : Nat) (hi : its[i]? = some (.box b vs)) (hl : Nat.ble n vs.length = true) (hj : its[j]? = some (.box c [v]))
    (hR : R (.returned (.tuple #[.agg (vs.take n).toArray, v])) w) : Leaves P fn tmps R [] .returning w := by
  refine ⟨_, ?_, hR⟩
  have h0 := sh_loadVar (p := 0) H hs kt i hi (by rw [Nat.zero_add]; exact Nat.le_of_ble_eq_true hl)
  have h1 := sh_loadVar1 (p := 0) H ku j hj rfl
  have hx' : tmps[x]?.getD undef = .pointer (some ⟨b, 0, none⟩) := by simpa using hx
  have hy' : tmps[y]?.getD undef = .pointer (some ⟨c, 0, none⟩) := by simpa using hy
  rw [List.drop_zero] at h0
  simp only [results, hres]
  simp [asAddr, hx', hy', h0, h1]
end
section
variable {w0 w : World} {its : List It} {R : Ending → World → Prop} {tmps : Array Value}
abbrev tdDs (tb eb : Nat) : List Deferred := [⟨.fn (.func 45) #[.pointer (some ⟨tb, 0, none⟩), .pointer (some ⟨eb, 0, none⟩)], #[]⟩]
theorem td_panic {tb eb : Nat} {x0 x1 x2 x3 x4 x5 x6 ev : Value} (q : Int) (H : Heap w0 (.box tb [x0, x1, x2, x3, x4, x5, x6] :: .box eb [ev] :: its) w)
    (h4 : tmps.getD 4 undef = .pointer (some ⟨tb, 0, none⟩)) (h5 : tmps.getD 5 undef = .pointer (some ⟨eb, 0, none⟩)) (hR : ∀ w', Ext w0 w' → R (.returned (.tuple #[.agg zTnt.toArray, .int .i64 q])) w') :
    Leaves Tryz.prog Tryz.f17 tmps R (tdDs tb eb) (.panicking [{ v := errV q, recovered := false }]) w := by
  refine leaves_cons (f := 45) (args := #[.pointer (some ⟨tb, 0, none⟩), .pointer (some ⟨eb, 0, none⟩)]) (by simp) (by simp [go_sem]) ?_
  refine (rd1_panic q [] (Lib.hid H)).mono ?_
  rintro e u' w'' ⟨rfl, rfl, H2⟩
  simp only [settle, List.dropWhile]
  exact leave2s sizeTnt (by kernel_rfl) (by kernel_rfl) H2 rfl h4 h5 0 1 rfl rfl rfl (hR _ H2.ext)
theorem td_idle {tb eb : Nat} {x0 x1 x2 x3 x4 x5 x6 ev : Value} (H : Heap w0 (.box tb [x0, x1, x2, x3, x4, x5, x6] :: .box eb [ev] :: its) w)
    (h4 : tmps.getD 4 undef = .pointer (some ⟨tb, 0, none⟩)) (h5 : tmps.getD 5 undef = .pointer (some ⟨eb, 0, none⟩)) (hR : ∀ w', Heap w0 (.box tb [x0, x1, x2, x3, x4, x5, x6] :: .box eb [ev] :: its) w' → R (.returned (.tuple #[.agg #[x0, x1, x2, x3, x4, x5, x6], ev])) w') :
    Leaves Tryz.prog Tryz.f17 tmps R (tdDs tb eb) .returning w := by
  refine leaves_cons (f := 45) (args := #[.pointer (some ⟨tb, 0, none⟩), .pointer (some ⟨eb, 0, none⟩)]) (by simp) (by simp [go_sem]) ?_
  refine (rd1_idle (Lib.hid H)).mono ?_
  rintro e u' w'' ⟨rfl, rfl, H2⟩
  simp only [settle]
  exact leave2s sizeTnt (by kernel_rfl) (by kernel_rfl) H2 rfl h4 h5 0 1 rfl rfl rfl (hR _ H2)
end
def hasP (s p : ByteArray) : Bool := decide (p.size ≤ s.size) && ((s.extract 0 p.size).toList == p.toList)
def cutP (s p : ByteArray) : ByteArray × Bool := if hasP s p = true then (s.extract p.size s.size, true) else (s, false)
set_option maxRecDepth 100000 in
set_option maxHeartbeats 4000000 in
theorem hasp_any (w : World) (s p : ByteArray) (hs : s.size ≤ 1000000000) (hp : p.size ≤ 1000000000) :
    Calls Tryz.prog 154 #[.string s, .string p] w fun e w' => e = .returned (.bool (hasP s p)) ∧ w' = w := by
  by_cases h : p.size ≤ s.size
  · have hd : decide (p.size ≤ s.size) = true := by simpa using h
    have HV := Lib.hid (show hasP s p = ((s.extract 0 p.size).toList == p.toList) by rw [hasP, hd, Bool.true_and])
    generalize hasP s p = V at *
    go_enter Tryz.func154, Tryz.ntmps154
    go_wp2_with fail
    go_ret
    exact ⟨by rw [HV.out]; rfl, rfl⟩
  · have hd : decide (p.size ≤ s.size) = false := by simpa using h
    have HV := Lib.hid (show hasP s p = false by rw [hasP, hd, Bool.false_and])
    generalize hasP s p = V at *
    go_enter Tryz.func154, Tryz.ntmps154
    go_wp2_with fail
    go_ret
    exact ⟨by rw [HV.out]; rfl, rfl⟩
set_option maxRecDepth 100000 in
set_option maxHeartbeats 4000000 in
theorem cutpi_any (w : World) (s p : ByteArray) (hs : s.size ≤ 1000000000) (hp : p.size ≤ 1000000000) :
    Calls Tryz.prog 105 #[.string s, .string p] w fun e w' => e = .returned (.tuple #[.string (cutP s p).1, .bool (cutP s p).2]) ∧ w' = w := by
  have HH := Lib.hid (hasp_any w s p hs hp)
  have HC := Lib.hid (show cutP s p = if hasP s p = true then (s.extract p.size s.size, true) else (s, false) from rfl)
  have HL := Lib.hid (show hasP s p = true → p.size ≤ s.size from fun h => by
    rw [hasP, Bool.and_eq_true, decide_eq_true_eq] at h
    exact h.1)
  generalize cutP s p = C at *
  generalize hasP s p = V at *
  cases V with
  | false =>
    have hC := HC.out
    rw [if_neg (by decide)] at hC
    subst hC
    clear HC HL
    go_enter Tryz.func105, Tryz.ntmps105
    go_wp2_with fail
    refine HH.out.mono ?_
    rintro e w1 ⟨rfl, rfl⟩
    go_wp2_with fail
    go_ret2
    exact ⟨rfl, rfl⟩
  | true =>
    have hC := HC.out
    rw [if_pos rfl] at hC
    subst hC
    have hl := HL.out rfl
    clear HC HL
    go_enter Tryz.func105, Tryz.ntmps105
    go_wp2_with fail
    refine HH.out.mono ?_
    rintro e w1 ⟨rfl, rfl⟩
    go_wp2_with fail
    go_ret2
    exact ⟨rfl, rfl⟩
set_option maxRecDepth 100000 in
set_option maxHeartbeats 4000000 in
theorem cutp_any (w : World) (s p : ByteArray) (hs : s.size ≤ 1000000000) (hp : p.size ≤ 1000000000) :
    Calls Tryz.prog 48 #[.string s, .string p] w fun e w' => e = .returned (.tuple #[.string (cutP s p).1, .bool (cutP s p).2]) ∧ w' = w := by
  have HH := Lib.hid (cutpi_any w s p hs hp)
  generalize cutP s p = C at *
  go_enter Tryz.func48, Tryz.ntmps48
  go_wp2_with fail
  refine HH.out.mono ?_
  rintro e w1 ⟨rfl, rfl⟩
  go_wp2_with fail
  go_ret2
  exact ⟨rfl, rfl⟩
open Go.RowKit Go.Maps Go.Sort Go.Shelf
set_option linter.unusedVariables false
set_option linter.unusedSimpArgs false
structure TntIn (L : RdL) (t : Tnt) : Prop where
  sets : InL L Dst.cells t.sets
  setsA : ∀ y ∈ t.sets.xs, DstIn L y
  grants : InL L Gra.cells t.grants
  stages : InL L Stg.cells t.stages
  stagesA : ∀ y ∈ t.stages.xs, StgIn L y
  log : InL L Lin.cells t.log
structure Tnt.fit (t : Tnt) : Prop where
  name : sml t.name
  quota : (Lit.int .i64 t.quota).wf = true
  next : (Lit.int .i64 t.next).wf = true
  sets : ∀ y ∈ t.sets.xs, Dst.fit y
  grants : ∀ y ∈ t.grants.xs, Gra.sm y
  stages : ∀ y ∈ t.stages.xs, Stg.fit y
  log : ∀ y ∈ t.log.xs, Lin.sm y
section
variable {w0 w : World} {its : List It} {j : Nat} {S : Nat → Prop} {L : RdL}
theorem InL.at_ {α : Type} {cells : α → List Value} {I : α → Prop} {s : Sl α} (H : Heap w0 its w) (hj : its[j]? = some (It.bag S L)) (h : InL L cells s) (hI : ∀ x ∈ s.xs, I x) : Sl.At w 0 w.heap.size cells I s :=
  ⟨h.len, h.le, h.cap, (H.bagRd hj h.mem).m0, hI⟩
theorem SnaIn.at_ {x : Sna} (H : Heap w0 its w) (hj : its[j]? = some (It.bag S L)) (h : SnaIn L x) (hf : x.fit) : Sna.At w 0 w.heap.size x :=
  ⟨hf.name, hf.guid, h.body.at_ H hj hf.body, by rw [h.body.len]; exact hf.bodyS, h.tags.at_ H hj hf.tags, h.own.at_ H hj hf.own, by rw [h.own.len]; exact hf.ownS⟩
theorem DstIn.at_ {x : Dst} (H : Heap w0 its w) (hj : its[j]? = some (It.bag S L)) (h : DstIn L x) (hf : x.fit) : Dst.At w 0 w.heap.size x :=
  ⟨hf.path, hf.origin, h.body.at_ H hj hf.body, by rw [h.body.len]; exact hf.bodyS, h.snaps.at_ H hj (fun y hy => (h.all y hy).at_ H hj (hf.snaps y hy)), by rw [h.snaps.len]; exact hf.snapsS, h.own.at_ H hj hf.own, by rw [h.own.len]; exact hf.ownS⟩
theorem StgIn.at_ {x : Stg} (H : Heap w0 its w) (hj : its[j]? = some (It.bag S L)) (h : StgIn L x) (hf : x.fit) : Stg.At w 0 w.heap.size x :=
  ⟨(H.bagRd hj h.beg).m0, hf.beg, hf.begN, hf.begS, h.bodyN, hf.bodyM, h.bodyC, (H.bagRd hj h.body).m0, hf.bodyW, hf.into, hf.pos, hf.next, hf.su⟩
theorem TntIn.at_ {t : Tnt} (H : Heap w0 its w) (hj : its[j]? = some (It.bag S L)) (h : TntIn L t) (hf : t.fit) : Tnt.At w 0 w.heap.size t :=
  ⟨hf.name, hf.quota, hf.next, h.sets.at_ H hj (fun y hy => (h.setsA y hy).at_ H hj (hf.sets y hy)), h.grants.at_ H hj hf.grants, h.stages.at_ H hj (fun y hy => (h.stagesA y hy).at_ H hj (hf.stages y hy)), h.log.at_ H hj hf.log⟩
end
def Tnt.bare (t : Tnt) : Tnt := { t with sets := slB (t.sets.xs.map Dst.bare), grants := slB t.grants.xs, stages := slB (t.stages.xs.map Stg.bare), log := slB t.log.xs }
def pT (name : ByteArray) : ByteArray := ⟨#[116, 47]⟩ ++ name
def pS (name : ByteArray) : ByteArray := ⟨#[115, 47]⟩ ++ name ++ ⟨#[47]⟩
def pG (name : ByteArray) : ByteArray := ⟨#[103, 47]⟩ ++ name ++ ⟨#[47]⟩
def rStp (t : Tnt) (c1 c2 : ByteArray × Bool) (d : List UInt8) : Option Tnt :=
  bif c1.2 && t.stages.xs.isEmpty then (rSet c1.1 d).bind fun s => some { t with sets := slB (t.sets.xs ++ [s]) }
  else bif c2.2 then (rStage c2.1 d).bind fun s => some { t with stages := slB (t.stages.xs ++ [s]) }
  else none
def rStep (name : ByteArray) (t : Tnt) (x : ByteArray × List UInt8) : Option Tnt := rStp t (cutP x.1 (pS name)) (cutP x.1 (pG name)) x.2
def rFold (name : ByteArray) : Tnt → List (ByteArray × List UInt8) → Option Tnt
  | t, [] => some t
  | t, x :: l => (rStep name t x).bind fun t => rFold name t l
def rTen (name : ByteArray) : List (ByteArray × List UInt8) → Option Tnt
  | [] => none
  | x :: l => if x.1 = pT name then (rHead name x.2).bind fun t => (rFold name t l).bind fun t => if tenB t = true then some t else none else none
theorem findI_map {α β : Type} (f : α → β) (p : β → Bool) : ∀ l : List α, findI p (l.map f) = findI (fun x => p (f x)) l
  | [] => rfl
  | x :: l => by rw [List.map_cons, findI, findI, findI_map f p l]
theorem atS_bare (l : List Dst) (p : ByteArray) : atS (l.map Dst.bare) p = atS l p := by rw [atS, findI_map]; rfl
theorem snO_bare (l : List Dst) (p n : ByteArray) : snO (l.map Dst.bare) p n = snO l p n := by
  rw [snO, atS_bare, snO, List.map_map]
  have e : ∀ k : Nat, (l.map ((fun x : Dst => x.snaps.xs) ∘ Dst.bare)).getD k [] = ((l.map fun x => x.snaps.xs).getD k []).map Sna.bare := fun k => by
    simp only [List.getD_eq_getElem?_getD, List.getElem?_map]
    cases l[k]? <;> rfl
  rw [e, findI_map]; rfl
theorem snsB_bare (l : List Sna) : snsB (l.map Sna.bare) = snsB l := by
  unfold snsB
  rw [List.length_map, List.all_map, List.map_map, List.map_map]; rfl
theorem upB_bare (l : List Dst) (x : Dst) : upB (l.map Dst.bare) x.bare = upB l x := by
  unfold upB
  show (match parO x.path with | none => true | some up => decide (0 ≤ atS (l.map Dst.bare) up)) = _
  cases parO x.path with
  | none => rfl
  | some up => simp only [atS_bare]
theorem orB_bare (l : List Dst) (x : Dst) : orB (l.map Dst.bare) x.bare = orB l x := by
  unfold orB
  simp only [atS_bare, snO_bare]; rfl
theorem seB_bare (l : List Dst) (x : Dst) : seB (l.map Dst.bare) x.bare = seB l x := by
  unfold seB
  rw [upB_bare, orB_bare, show x.bare.snaps.xs = x.snaps.xs.map Sna.bare from rfl, snsB_bare]; rfl
theorem setsB_bare (l : List Dst) : setsB (l.map Dst.bare) = setsB l := by
  unfold setsB
  rw [List.length_map, atS_bare, List.all_map, List.map_map]
  have : (seB (l.map Dst.bare) ∘ Dst.bare) = seB l := by funext x; exact seB_bare l x
  rw [this]; rfl
theorem stB_bare (x : Stg) (h : x.beg.on = x.beg.own.length) : stB x.bare = stB x := by
  unfold stB
  show (!x.into.toList.isEmpty && (pathB x.into && (x.beg.kind == 1 && (decide (recE x.beg.bare = 0) && _)))) = _
  by_cases hk : x.beg.kind = 1
  · rw [recE_of (y := x.beg) rfl h (.inl hk)]; rfl
  · have : (x.beg.kind == 1) = false := by simpa using hk
    rw [this]; simp
theorem stsB_bare (l : List Stg) (h : ∀ y ∈ l, y.beg.on = y.beg.own.length) : stsB (l.map Stg.bare) = stsB l := by
  unfold stsB
  rw [List.length_map, List.all_map, List.map_map]
  have : l.all (stB ∘ Stg.bare) = l.all stB := by
    rw [Bool.eq_iff_iff, List.all_eq_true, List.all_eq_true]
    exact ⟨fun q x hx => by rw [← stB_bare x (h x hx)]; exact q x hx, fun q x hx => by show stB x.bare = true; rw [stB_bare x (h x hx)]; exact q x hx⟩
  rw [this]; rfl
theorem tenB_bare (t : Tnt) (h : ∀ y ∈ t.stages.xs, y.beg.on = y.beg.own.length) : tenB t.bare = tenB t := by
  unfold tenB
  rw [show t.bare.sets.xs = t.sets.xs.map Dst.bare from rfl, show t.bare.stages.xs = t.stages.xs.map Stg.bare from rfl, setsB_bare, stsB_bare _ h]; rfl
end Go.Proofs.YtckaneapjpiocaaGreatDoor
