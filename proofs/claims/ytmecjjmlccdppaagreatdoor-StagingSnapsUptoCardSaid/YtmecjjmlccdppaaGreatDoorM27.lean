/- The texts HeapR, Sown in one file. -/
import Derived.Test.YtmecjjmlccdppaaGreatDoorM2
import Derived.Test.YtmecjjmlccdppaaGreatDoorM25
/- Rows of the call's own among a world's items: loads out of them, stores into them. Laws over whatever program. -/
namespace Go.Proofs.YtmecjjmlccdppaaGreatDoor
open Go.RowKit
set_option linter.unusedVariables false
section
variable {w0 w w' : World} {its : List It} {e : TypeId} {size n c g : Nat}
theorem row_sets : ∀ (cs : List Value) (p : Nat) (xs : List Value) (w : World) (base : Nat), w.ownsRow base e size (.slice (some ⟨g, 0, none⟩) n c) n xs → p + cs.length ≤ xs.length →
    (w.setCells g p cs).ownsRow base e size (.slice (some ⟨g, 0, none⟩) n c) n (xs.take p ++ cs ++ xs.drop (p + cs.length))
  | [], p, vs, w, base, h, _ => by simpa [World.setCells] using h
  | u :: cs, p, vs, w, base, h, hl => by
    have h1 := (h.stored p u).1
    rw [List.length_cons] at hl
    have h2 := row_sets cs (p + 1) (vs.set p u) (w.setCell ⟨g, p, none⟩ u) base h1 (by simp; omega)
    have e1 : (vs.set p u).take (p + 1) = vs.take p ++ [u] := by
      rw [List.take_set, List.take_succ_eq_append_getElem (by omega), List.set_append_right _ _ (by simp; omega)]
      simp [show p - min p vs.length = 0 by omega]
    have e2 : (vs.set p u).drop (p + 1 + cs.length) = vs.drop (p + (cs.length + 1)) := by
      rw [List.drop_set_of_lt (by omega), show p + 1 + cs.length = p + (cs.length + 1) by omega]
    rw [e1, e2] at h2
    simpa [World.setCells, List.append_assoc] using h2
theorem Heap.rowPut {p : Nat} {xs cs : List Value} (H : Heap w0 its w) (i : Nat) (hi : its[i]? = some (.row e size (.slice (some ⟨g, 0, none⟩) n c) n xs)) (hl : p + cs.length ≤ xs.length) :
    Heap w0 (its.set i (.row e size (.slice (some ⟨g, 0, none⟩) n c) n (xs.take p ++ cs ++ xs.drop (p + cs.length)))) (w.setCells g p cs) :=
  H.upd hi ((keep_sets cs p w).mono fun k hk e => hk (by subst e; rfl)) (row_sets cs p xs w _ (H.rowAt i hi) hl) (fun k hk => .inl hk) (fun k hk => .inl hk) fun k hk => (World.ownsRow.lt (H.rowAt i hi) k hk).1
theorem Heap.rowForm {v : Value} {xs : List Value} (H : Heap w0 its w) (i : Nat) (hi : its[i]? = some (.row e size v n xs)) (hn : 0 < n) : ∃ g c, v = .slice (some ⟨g, 0, none⟩) n c :=
  (World.ownsRow.form (H.rowAt i hi) hn).elim fun g h => h.elim fun c h => ⟨g, c, h.1⟩
theorem Heap.rowRd {A : Option Addr} {xs : List Value} (H : Heap w0 its w) (i : Nat) (hi : its[i]? = some (.row e size (.slice A n c) n xs)) : Rd w w0.heap.size w.heap.size A xs := Rd.of_own (H.rowAt i hi)
theorem Heap.rowLen {v : Value} {xs : List Value} (H : Heap w0 its w) (i : Nat) (hi : its[i]? = some (.row e size v n xs)) : xs.length = n * size := (H.rowAt i hi).1
/-- two slices that read, made at once -/
theorem Heap.addRd2 {A B : Option Addr} {cs ds : List Value} (h : Heap w0 its w) (hw : Ext w w') (hr : Rd w' w.heap.size w'.heap.size A cs) (hr2 : Rd w' w.heap.size w'.heap.size B ds) : Heap w0 (.rd B ds :: .rd A cs :: its) w' := by
  have h1 := h.addRd hw hr (Nat.le_refl _)
  refine ⟨h1.ext, fun j y hy => ?_, fun j l y z k hjl hy hz ho hat => ?_⟩
  · cases j with
    | zero =>
      cases hy
      intro hn
      obtain ⟨b, o, he, h1, h2, h3⟩ := hr2 hn
      exact ⟨b, o, he, h2, Nat.le_trans h.ext.size h1, h3⟩
    | succ j => exact h1.all j y hy
  · cases j with
    | zero => cases hy; exact ho.elim
    | succ j =>
      cases l with
      | zero =>
        cases hz
        obtain ⟨hn, a, rfl, rfl⟩ := hat
        obtain ⟨b, o, he, h2, _⟩ := hr2 hn
        cases he
        cases j with
        | zero => cases hy; exact ho.elim
        | succ j =>
          have := It.at_lt (h.all j y hy) (It.own_at ho)
          exact absurd (Nat.lt_of_lt_of_le this h2) (Nat.lt_irrefl _)
      | succ l => exact h1.apart j l y z k (fun e => hjl (by omega)) hy hz ho hat
end
section
variable {P : Program} {w0 w : World} {its : List It} {o : Oper} {a : Act} {K : Act → World → Prop} {ops : Array Oper} {rest : List Oper} {Q : Exit → Act → World → Prop} {e : TypeId} {size n c g : Nat}
/-- a struct is written into a row of the call's own -/
theorem sh_rstore {t : TypeId} {x y : Operand} {p m : Nat} {xs cs : List Value} (H : Heap w0 its w) (hs : (P.info? t).map (·.size) = some m) (ho : o.op = .store t x y) (hx : a.eval x = .pointer (some ⟨g, p, none⟩)) (hy : a.eval y = .agg cs.toArray) (i : Nat)
    (hi : its[i]? = some (.row e size (.slice (some ⟨g, 0, none⟩) n c) n xs)) (hn : cs.length = m) (hl : p + m ≤ n * size)
    (h1 : cs.all (·.oneCell') = true) (k : ∀ w', Heap w0 (its.set i (.row e size (.slice (some ⟨g, 0, none⟩) n c) n (xs.take p ++ cs ++ xs.drop (p + m)))) w' → K (a.put o.dst undef) w') : o.wp P a w K Q := by
  subst hn
  have hb := H.rowAt i hi
  have hxl := hb.1
  have ht : w.there g p cs.toArray.size := fun j hj => by
    have hj' : j < cs.length := by simpa using hj
    exact ⟨by rw [hb.cellAt (p + j) (by omega), List.getElem?_eq_getElem (by omega)]; rfl, hb.frozenAt (p + j)⟩
  have hr := run_storeVar_mid (P := P) w g p t cs.toArray ht (by simpa using hs) (all_oneCell_toArray (fun v hv => List.all_eq_true.1 h1 v hv))
  unfold Oper.wp execOp
  simp only [ho, hx, hy, Instr.storeAt, Instr.sureAddr, Sem.run_bind, Sem.run_pure, Result.andThen_ok, hr]
  exact k _ (H.rowPut i hi (by omega))
/-- a value of one cell is written into a row of the call's own -/
theorem sh_rstore1 {t : TypeId} {x y : Operand} {p : Nat} {xs : List Value} {v : Value} (H : Heap w0 its w) (ho : o.op = .store t x y) (hx : a.eval x = .pointer (some ⟨g, p, none⟩)) (hy : a.eval y = v) (i : Nat)
    (hi : its[i]? = some (.row e size (.slice (some ⟨g, 0, none⟩) n c) n xs)) (hl : p < n * size)
    (h1 : v.oneCell' = true) (hs : (P.info? t).map (·.size) = some 1) (k : ∀ w', Heap w0 (its.set i (.row e size (.slice (some ⟨g, 0, none⟩) n c) n (xs.take p ++ [v] ++ xs.drop (p + 1)))) w' → K (a.put o.dst undef) w') : o.wp P a w K Q := by
  have hb := H.rowAt i hi
  have hxl := hb.1
  have hvc : v.cells = #[v] := by cases v <;> first | rfl | cases h1
  have hc : (w.cell? ⟨g, p, none⟩).isSome = true := by rw [hb.cellAt p hl, List.getElem?_eq_getElem (by omega)]; rfl
  have hst := run_storeCells_cells (P := P) g p [v] 0 w (fun j hj => (by
    obtain rfl : j = 0 := by simpa using hj
    exact hc)) (fun j hj => hb.frozenAt (p + 0 + j)) (by simpa using h1)
  have hr : (storeVar t ⟨g, p, none⟩ v).run P w = .ok () (w.setCell ⟨g, p, none⟩ v) := by
    simp only [storeVar, hvc, Sem.run_bind, sizeOf_run hs, Result.andThen_ok]
    simpa [World.setCells] using hst
  unfold Oper.wp execOp
  simp only [ho, hx, hy, Instr.storeAt, Instr.sureAddr, Sem.run_bind, Sem.run_pure, Result.andThen_ok, hr]
  have h2 := H.rowPut (p := p) (cs := [v]) i hi (by simp; omega)
  exact k _ (by simpa [World.setCells] using h2)
theorem shl_rstore {t : TypeId} {x y : Operand} {p m : Nat} {xs cs : List Value} (H : Heap w0 its w) (hs : (P.info? t).map (·.size) = some m) (ho : o.op = .store t x y) (hgd : o.guard = none) (hx : a.eval x = .pointer (some ⟨g, p, none⟩)) (hy : a.eval y = .agg cs.toArray) (i : Nat)
    (hi : its[i]? = some (.row e size (.slice (some ⟨g, 0, none⟩) n c) n xs)) (hn : cs.length = m) (hl : p + m ≤ n * size)
    (h1 : cs.all (·.oneCell') = true) (k : ∀ w', Heap w0 (its.set i (.row e size (.slice (some ⟨g, 0, none⟩) n c) n (xs.take p ++ cs ++ xs.drop (p + m)))) w' → wpList P ops Q rest (a.put o.dst undef) w') : wpList P ops Q (o :: rest) a w :=
  wpList_plain hgd fun _ hK => sh_rstore H hs ho hx hy i hi hn hl h1 fun w' h => hK _ _ (k w' h)
theorem shl_rstore1 {t : TypeId} {x y : Operand} {p : Nat} {xs : List Value} {v : Value} (H : Heap w0 its w) (ho : o.op = .store t x y) (hgd : o.guard = none) (hx : a.eval x = .pointer (some ⟨g, p, none⟩)) (hy : a.eval y = v) (i : Nat)
    (hi : its[i]? = some (.row e size (.slice (some ⟨g, 0, none⟩) n c) n xs)) (hl : p < n * size)
    (h1 : v.oneCell' = true) (hs : (P.info? t).map (·.size) = some 1) (k : ∀ w', Heap w0 (its.set i (.row e size (.slice (some ⟨g, 0, none⟩) n c) n (xs.take p ++ [v] ++ xs.drop (p + 1)))) w' → wpList P ops Q rest (a.put o.dst undef) w') : wpList P ops Q (o :: rest) a w :=
  wpList_plain hgd fun _ hK => sh_rstore1 H ho hx hy i hi hl h1 hs fun w' h => hK _ _ (k w' h)
/-- 'append', onto a row of the call's own, at a plain region -/
theorem shl_app (s x : Operand) (t : TypeId) (ho : o.op = .call { callee := .builtin .append, args := #[s, x], argTypes := #[t, t] }) (hgd : o.guard = none)
    {e : TypeId} {inf : TypeInfo} {z : Value} {size bytes : Nat} (ht : P.underlying t = some (.slice e)) (hinf : P.info? e = some inf) (hz : inf.zero = some z)
    (hsize : inf.size = size) (hby : inf.bytes = bytes) (hzs : z.cells.size = size) (hsz : 0 < size)
    {v : Value} {n : Nat} {xs : List Value} (H : Heap w0 its w) (i : Nat) (hi : its[i]? = some (.row e size v n xs)) (hs : a.eval s = v)
    {lo h' : Nat} {A : Option Addr} {m c : Nat} {news : List Value} (hx : a.eval x = .slice A m c) (hl : news.length = m * size) (hr : Rd w lo h' A news) (h1 : ∀ u ∈ news, u.oneCell' = true)
    (h63 : n + m ≤ maxLen) (hbytes : (n + m) * bytes ≤ 140737488355328)
    (k : ∀ v' w', Heap w0 (its.set i (.row e size v' (n + m) (xs ++ news))) w' → (∃ A c, v' = .slice A (n + m) c) → wpList P ops Q rest (a.put o.dst v') w') : wpList P ops Q (o :: rest) a w :=
  wpList_plain hgd fun _ hK => sh_app s x t ho ht hinf hz hsize hby hzs hsz H i hi hs hx hl hr h1 h63 hbytes fun v' w' h h2 => hK _ _ (k v' w' h h2)
/-- 'append', onto nothing, at a plain region -/
theorem shl_app0 (s x : Operand) (t : TypeId) (ho : o.op = .call { callee := .builtin .append, args := #[s, x], argTypes := #[t, t] }) (hgd : o.guard = none)
    {e : TypeId} {inf : TypeInfo} {z : Value} {size bytes : Nat} (ht : P.underlying t = some (.slice e)) (hinf : P.info? e = some inf) (hz : inf.zero = some z)
    (hsize : inf.size = size) (hby : inf.bytes = bytes) (hzs : z.cells.size = size) (hsz : 0 < size)
    (H : Heap w0 its w) (hs : a.eval s = .slice none 0 0)
    {lo h' : Nat} {A : Option Addr} {m c : Nat} {news : List Value} (hx : a.eval x = .slice A m c) (hl : news.length = m * size) (hr : Rd w lo h' A news) (h1 : ∀ u ∈ news, u.oneCell' = true)
    (h63 : m ≤ maxLen) (hbytes : m * bytes ≤ 140737488355328)
    (k : ∀ v' w', Heap w0 (.row e size v' m news :: its) w' → (∃ A c, v' = .slice A m c) → wpList P ops Q rest (a.put o.dst v') w') : wpList P ops Q (o :: rest) a w :=
  wpList_plain hgd fun _ hK => sh_app0 s x t ho ht hinf hz hsize hby hzs hsz H hs hx hl hr h1 h63 hbytes fun v' w' h h2 => hK _ _ (k v' w' h h2)
/-- a row of nothing among the items -/
theorem Heap.row0 {e : TypeId} {size : Nat} (H : Heap w0 its w) : Heap w0 (.row e size (.slice none 0 0) 0 [] :: its) w :=
  H.add (Ext.refl w) (World.ownsRow_nil w w0.heap.size e size) fun k hk => by cases hk
end
end Go.Proofs.YtmecjjmlccdppaaGreatDoor
/- StagingOwn: the law's walk. -/
namespace Go.Proofs.YtmecjjmlccdppaaGreatDoor
open Go.RowKit
set_option linter.unusedVariables false
set_option linter.unusedSimpArgs false

set_option maxRecDepth 100000 in
set_option maxHeartbeats 8000000 in
theorem sown_any (w : World) (hM : MaxV w) (x : Stg) (hx : x.ok w) (r : Rec) (hr : Rd w 0 w.heap.size r.oA (prps r.own)) (hrx : r.wf) (hron : r.on ≤ 100000000) (hrs : (sumR r).wf) :
    Calls Tryz.prog 4 #[.agg x.cells.toArray, .agg r.cells.toArray] w fun e w' => e = .returned (.bool true) ∧ Ext w w' := by
  have HAl := Lib.hid (fun W (hW : Ext w W) => alive_any W (hM.ext hW))
  have HOw := Lib.hid (fun W (hW : Ext w W) => rown_any W x.bA x.bn x.bc x.body hx.bodyN (Rd.at hx.bodyR hW (Nat.le_refl _)) (by have := hx.bodyM; omega))
  have hok : ∀ W A c, Ext w W → Rd W 0 W.heap.size A (blks x.body) → Stg.ok W ⟨x.into, x.beg, A, x.bn, c, x.body, x.pos, x.next, x.su, x.done⟩ := fun W A c hW hA => ⟨hx.into, hx.beg, (hx.ext hW).begR, hx.begN, hx.begS, hx.bodyN, hx.bodyM, hA, hx.bodyW, hx.pos, hx.next, hx.su⟩
  have HTk := Lib.hid (fun W A c (hW : Ext w W) (hA : Rd W 0 W.heap.size A (blks x.body)) => show Calls Tryz.prog 9 #[.agg (Stg.cells ⟨x.into, x.beg, A, x.bn, c, x.body, x.pos, x.next, x.su, x.done⟩).toArray, .agg r.cells.toArray] W (StOut W (stakeA x r) (stakeE x r) true) from
    take_any W (hM.ext hW) ⟨x.into, x.beg, A, x.bn, c, x.body, x.pos, x.next, x.su, x.done⟩ (hok W A c hW hA) r (Rd.at hr hW (Nat.le_refl _)) hrx hron hrs)
  have HSm := Lib.hid (fun W A c (hW : Ext w W) (hA : Rd W 0 W.heap.size A (blks x.body)) => show Calls Tryz.prog 13 #[.agg (Stg.cells ⟨x.into, x.beg, A, x.bn, c, x.body, x.pos, x.next, x.su, x.done⟩).toArray, .agg x.cells.toArray] W fun e w' => e = .returned (.bool true) ∧ Ext W w' from by
    have h := samestage_any W ⟨x.into, x.beg, A, x.bn, c, x.body, x.pos, x.next, x.su, x.done⟩ x (hok W A c hW hA).rd (hx.ext hW).rd
    rwa [same_bare ⟨x.into, x.beg, A, x.bn, c, x.body, x.pos, x.next, x.su, x.done⟩ x rfl] at h)
  have HRt := Lib.hid (fun W (hW : Ext w W) => rtake_any W x (hx.ext hW) r (Rd.at hr hW (Nat.le_refl _)) hrx hron hrs)
  have HSa := Lib.hid (fun W y1 y2 (h : Stg.bare y1 = Stg.bare y2) (h1 : y1.rd W) (h2 : y2.rd W) => show Calls Tryz.prog 13 #[.agg y1.cells.toArray, .agg y2.cells.toArray] W fun e w' => e = .returned (.bool true) ∧ Ext W w' from by
    have h3 := samestage_any W y1 y2 h1 h2
    rwa [same_bare y1 y2 h] at h3)
  have HNu := Lib.hid (fun W a => (num_any W a).mono fun e w' h => show e = .returned (.int .i64 a) ∧ Ext W w' from ⟨h.1, by rw [h.2]; exact Ext.refl _⟩)
  have HBm := Lib.hid (show x.bn ≤ 100000000 from hx.bodyM)
  clear hok hx hr hrx hron hrs
  generalize stakeA x r = SA at *
  generalize stakeE x r = V at *
  obtain ⟨into, ⟨kind, name, frm, guid, oA, on, oc, own, index, count, data, s0, s1, s2, s3⟩, bA, bn, bc, body, pos, next, ⟨ua, ub, uc, ud⟩, dn⟩ := x
  obtain ⟨rkind, rname, rfrm, rguid, roA, ron, roc, rown, rindex, rcount, rdata, r0, r1, r2, r3⟩ := r
  dsimp only at HBm
  simp only [Stg.cells, Rec.cells, Su.cells, List.cons_append, List.nil_append] at HOw HTk HSm HRt ⊢
  go_enter Tryz.func4, Tryz.ntmps4
  go_upto_region 1 with fail
  generalize hwH : World.alloc (World.alloc w _) _ = w1; have HH := Lib.hid (Heap.two hwH); clear hwH
  go_upto_region 3 with (go_at_call 15; (with_reducible refine (HAl.out _ HH.out.ext).mono ?_); rintro e wC ⟨rfl, eC⟩; have HHn := Lib.hid (HH.out.later eC); clear HH eC; have HH := HHn; clear HHn)
  go_upto_region 4 with (first | (refine shl_load HH.out sizeStg (by kernel_rfl) rfl rfl rfl 1 rfl rfl ?_) | refine shl_store ((Heap.start _).alloc _ _) sizeStg rfl rfl rfl rfl 0 rfl rfl rfl rfl ?_; intro wA HHS; have TwA := Lib.hid HHS.ext; have HHn := Lib.hid (HH.out.join1 HHS rfl); clear HH HHS; have HH := HHn; clear HHn)
  go_wp2_with (refine shl_load1 HH.out rfl rfl rfl 2 rfl rfl (by decide +kernel) ?_)
  refine (HOw.out _ HH.out.ext).mono ?_
  rintro e w2 ⟨v2, rfl, hown2, e2⟩
  obtain ⟨A2, c2, rfl, _, _, _⟩ := own_form hown2
  have HH2 := Lib.hid (HH.out.addRow e2 hown2)
  clear HH hown2 e2
  have HH := HH2
  clear HH2
  go_upto_region 5 with (refine shl_store1 HH.out rfl rfl rfl rfl 1 rfl rfl rfl (by kernel_rfl) ?_; clear HH; intro wS HHS; have HH := Lib.hid HHS; clear HHS)
  go_wp2_with (first | (refine shl_load HH.out sizeStg (by kernel_rfl) rfl rfl rfl 1 rfl rfl ?_) | (refine shl_load HH.out sizeRec (by kernel_rfl) rfl rfl rfl 2 rfl rfl ?_))
  refine (HTk.out _ A2 c2 HH.out.ext ((HH.out.rowRd 0 rfl).more (Nat.zero_le _) (Nat.le_refl _))).mono ?_
  rintro e w3 ⟨y1, rfl, b1, d1, f1, e3⟩
  have HH3 := Lib.hid (HH.out.addRd2 e3 (f1 rfl).1 (f1 rfl).2)
  have Hb1 := Lib.hid b1
  have Hd1 := Lib.hid d1
  clear HH e3 f1 b1 d1
  have HH := HH3
  clear HH3
  go_upto_region 6 with (refine shl_store ((Heap.start _).alloc _ _) sizeStg rfl rfl rfl rfl 0 rfl rfl rfl rfl ?_; intro wB HHS; have TwB := Lib.hid HHS.ext; have HHn := Lib.hid (HH.out.join1 HHS rfl); clear HH HHS; have HH := HHn; clear HHn)
  go_wp2_with (first | (refine shl_load HH.out sizeStg (by kernel_rfl) rfl rfl rfl 4 rfl rfl ?_) | (refine shl_load HH.out sizeStg (by kernel_rfl) rfl rfl rfl 6 rfl rfl ?_))
  refine (HSm.out _ A2 c2 HH.out.ext ((HH.out.rowRd 3 rfl).more (Nat.zero_le _) (Nat.le_refl _))).mono ?_
  rintro e w4 ⟨rfl, e4⟩
  have HH4 := Lib.hid (HH.out.later e4)
  clear HH e4
  have HH := HH4
  clear HH4
  go_wp2_with fail
  go_loopw [9] (fun i wr => ∃ j : Nat, j ≤ bn ∧ i = .int .i64 j ∧ ∃ xs, Hid (Heap w [.box w3.heap.size y1.cells, .rd y1.beg.oA (prps y1.beg.own), .rd y1.bA (blks y1.body), .row 46 2 (.slice A2 bn c2) bn xs, _, _, _] wr)) (fun i _ => bn - (intOf i).toNat)
  case atStart => exact ⟨0, Nat.zero_le _, rfl, blks body, HH⟩
  case round =>
    clear HH
    obtain ⟨j, hj, rfl, xs, HH⟩ := hrel
    have hbm := HBm.out
    by_cases hlt : j < bn
    · obtain ⟨g, c', hv⟩ := HH.out.rowForm 3 rfl (by omega)
      cases hv
      go_upto_region 10 with (refine shl_load1 HH.out rfl rfl rfl 4 rfl rfl (by decide +kernel) ?_)
      go_wp2_with (first | (refine shl_load1 HH.out rfl rfl rfl 4 rfl rfl (by decide +kernel) ?_) | (refine shl_rstore HH.out (m := 2) (by kernel_rfl) rfl rfl rfl rfl 3 rfl rfl (by omega) rfl ?_; clear HH; intro wS HHS; have HH := Lib.hid HHS; clear HHS))
      go_roundw
      case rel => exact ⟨j + 1, by omega, by go_num, _, HH⟩
      case measure => simp [intOf]; omega
    · obtain rfl : j = bn := by omega
      have hd : y1.rd wr := ⟨(HH.out.rdAt 1 rfl).more (Nat.zero_le _) (Nat.le_refl _), Hd1.out.begL, Hd1.out.begN, Hd1.out.bodyN, Hd1.out.bodyM, (HH.out.rdAt 2 rfl).more (Nat.zero_le _) (Nat.le_refl _)⟩
      have HD := Lib.hid hd
      clear hd
      go_upto_region 11 with (refine shl_load1 HH.out rfl rfl rfl 4 rfl rfl (by decide +kernel) ?_)
      go_wp2_with (first | (refine shl_load HH.out sizeStg (by kernel_rfl) rfl rfl rfl 6 rfl rfl ?_) | (refine shl_load HH.out sizeRec (by kernel_rfl) rfl rfl rfl 5 rfl rfl ?_))
      refine (HRt.out _ HH.out.ext).mono ?_
      rintro e w5 ⟨y2, rfl, b2, d2, _, e5⟩
      have HH5 := Lib.hid (HH.out.later e5)
      have HD1 := Lib.hid (HD.out.ext e5)
      have HD2 := Lib.hid d2
      have HB := Lib.hid (Hb1.out.trans b2.symm)
      clear HH e5 d2 b2 HD Hb1
      have HH := HH5
      clear HH5
      go_upto_region 12 with (refine shl_store ((Heap.start _).alloc _ _) sizeStg rfl rfl rfl rfl 0 rfl rfl rfl rfl ?_; intro wD HHS; have TwD := Lib.hid HHS.ext; have HHn := Lib.hid (HH.out.join1 HHS rfl); clear HH HHS; have HH := HHn; clear HHn)
      have HS := Lib.hid (HSa.out _ y1 y2 HB.out (HD1.out.ext TwD.out) (HD2.out.ext TwD.out))
      clear HSa HB HD1 HD2 TwD Hd1
      repeat (first | ((go_big_want; refine sh_load HH.out sizeStg (by kernel_rfl) rfl rfl 1 rfl (Nat.le_of_ble_eq_true rfl) ?_); rename_i hKq; refine hKq _ _ ?_; clear hKq; (try simp only [Act.put, List.setIfInBounds_toArray, List.set_cons_zero, List.set_cons_succ])) | ((go_big_want; refine sh_load HH.out sizeStg (by kernel_rfl) rfl rfl 0 rfl (Nat.le_of_ble_eq_true rfl) ?_); rename_i hKq; refine hKq _ _ ?_; clear hKq; (try simp only [Act.put, List.setIfInBounds_toArray, List.set_cons_zero, List.set_cons_succ])) | (go_at_call 14; refine (num_any _ _).mono ?_; rintro e w6 ⟨rfl, rfl⟩; go_simp) | go_step)
      refine HS.out.mono ?_
      rintro e w7 ⟨rfl, e7⟩
      go_wp2_with fail
      go_ret
      exact ⟨rfl, HH.out.ext.trans e7⟩
end Go.Proofs.YtmecjjmlccdppaaGreatDoor
