/- device.Read. -/
import Derived.Test.YthjpjhcbefhpbaaBackw
import Derived.Test.YthjpjhcbefhpbaaCrash
namespace Go.Proofs.Ythjpjhcbefhpbaa
open Go.RowKit Go.Shelf
attribute [local go_sem] Oper.semAt_some
set_option linter.unusedSimpArgs false
set_option linter.unusedVariables false

/-- a sector as the last write has it -/
def readV (S : List (List UInt8)) (W : List (Int × List UInt8)) (k : Nat) : List UInt8 := match W.reverse.find? (fun x => x.1 == (k : Int)) with
  | some x => x.2
  | none => S.getD k []
theorem readV_hit (ws : List Wrt) (S : List (List UInt8)) (k j : Nat) (hj : j < ws.length) (hp : (wat ws j).pos = (k : Int)) (hno : ∀ i, j < i → i < ws.length → (wat ws i).pos ≠ (k : Int)) : readV S (ws.map Wrt.abs) k = (wat ws j).data.xs := by
  have hs : ws = ws.take j ++ wat ws j :: ws.drop (j + 1) := by
    have : wat ws j = ws[j] := by simp [wat, hj]
    rw [this, ← List.drop_eq_getElem_cons hj, List.take_append_drop]
  have hd : ∀ x ∈ ws.drop (j + 1), x.pos ≠ (k : Int) := fun x hx => by
    obtain ⟨i, hi, rfl⟩ := List.mem_iff_getElem.1 hx
    rw [List.length_drop] at hi
    rw [List.getElem_drop]
    have := hno (j + 1 + i) (by omega) (by omega)
    rwa [show wat ws (j + 1 + i) = ws[j + 1 + i] by simp [wat, show j + 1 + i < ws.length by omega]] at this
  have h1 : (((ws.drop (j + 1)).map Wrt.abs).reverse.find? (fun x => x.1 == (k : Int))) = none := by
    rw [List.find?_eq_none]
    intro x hx
    rw [List.mem_reverse, List.mem_map] at hx
    obtain ⟨y, hy, rfl⟩ := hx
    simpa [Wrt.abs] using hd y hy
  generalize hx : wat ws j = x at *
  unfold readV
  rw [hs, List.map_append, List.map_cons, List.reverse_append, List.reverse_cons, List.append_assoc, List.find?_append, h1]
  simp [Wrt.abs, hp]
theorem readV_miss (ws : List Wrt) (S : List (List UInt8)) (k : Nat) (hno : ∀ i, i < ws.length → (wat ws i).pos ≠ (k : Int)) : readV S (ws.map Wrt.abs) k = S.getD k [] := by
  have h1 : ((ws.map Wrt.abs).reverse.find? (fun x => x.1 == (k : Int))) = none := by
    rw [List.find?_eq_none]
    intro x hx
    rw [List.mem_reverse, List.mem_map] at hx
    obtain ⟨y, hy, rfl⟩ := hx
    obtain ⟨i, hi, rfl⟩ := List.mem_iff_getElem.1 hy
    have := hno i hi
    rw [show wat ws i = ws[i] by simp [wat, hi]] at this
    simpa [Wrt.abs] using this
  unfold readV
  rw [h1]
theorem downTo_mem {m k i : Nat} (h : i ∈ downTo m k) : ∃ j, j < k ∧ i = m - 1 - j := by
  simp only [downTo, List.mem_map, List.mem_range] at h
  obtain ⟨j, hj, rfl⟩ := h
  exact ⟨j, hj, rfl⟩
theorem keepsFrom_ext {W W' : World} (h : Ext W W') (B : Nat) : KeepsFrom B W W' := ⟨h.size, fun k o _ hk _ => (Below.block h k (Array.getElem?_eq_some_iff.1 hk).1).trans hk⟩
theorem read_no (d : Dev) (w : World) (h : Dev.At w 0 w.heap.size d) (hc : chkE d ≠ 0) (k : Int) :
    Calls Try.prog 14 #[.agg d.cells.toArray, .int .i64 k] w fun e w' => e = .returned (.tuple #[.slice none 0 0, .int .i64 (chkE d)]) ∧ Ext w w' := by
  have HC := Lib.hid (fun w1 (e : Ext w w1) => chk_any d w1 (h.on e (Nat.le_refl _)))
  have q0 : (chkE d != 0) = true := by simpa using hc
  generalize hce : chkE d = ce at *
  have Hce := Lib.hid hce
  clear hce hc h
  obtain ⟨⟨sA, sn, sc, xs⟩, ⟨B, m, k9, ys⟩⟩ := d
  simp only [Dev.cells, Sl.val] at *
  go_enter Try.func14, Try.ntmps14
  go_wp2_with (go_at_call 15; refine (HC.out _ (by (repeat (first | exact Below.refl _ _ | exact Ext.refl _ | assumption | refine Below.drew ?_ | refine below_drewN ?_ _ | refine below_alloc ?_ (by first | exact Nat.le_refl _ | assumption | (simp; done) | omega | (simp; omega)) _ | refine below_ext ?_ (by assumption) (by first | exact Nat.le_refl _ | assumption | (simp; done) | omega | (simp; omega)) | refine Ext.drew ?_ | refine Ext.drewN ?_ _ | refine Ext.alloc ?_ _ | refine Ext.setCell ?_ (by first | assumption | (simp; done) | (simp; omega)) _ | refine Below.setCell ?_ (by first | assumption | (simp; done) | (simp; omega)) _ | refine Ext.trans ?_ (by assumption))))).mono ?_; rintro e w2 ⟨rfl, e2⟩; obtain ⟨p1, p2⟩ := bcell e2; have z2 : w.heap.size + 3 < w2.heap.size := (by have := e2.size; simp at this; omega); have c0 : w2.cell? ⟨w.heap.size + 2, 0, none⟩ = some (.slice none 0 0) := (by rw [p1 _ _ (by first | (simp; done) | (simp; omega))]; go_simp); have c1 : w2.cell? ⟨w.heap.size + 3, 0, none⟩ = some (.int .i64 0) := (by rw [p1 _ _ (by first | (simp; done) | (simp; omega))]; go_simp); have f0 : w2.frozen? ⟨w.heap.size + 2, 0, none⟩ = false := (by rw [p2 _ _ (by first | (simp; done) | (simp; omega))]; go_simp); have f1 : w2.frozen? ⟨w.heap.size + 3, 0, none⟩ = false := (by rw [p2 _ _ (by first | (simp; done) | (simp; omega))]; go_simp))
  refine bodyPost_ret (v := .tuple #[.slice none 0 0, .int .i64 ce]) (by simp [results, Try.results14, go_sem, *]) rfl ⟨by first | rfl | rw [Hce.out], by (repeat (first | exact Below.refl _ _ | exact Ext.refl _ | assumption | refine Below.drew ?_ | refine below_drewN ?_ _ | refine below_alloc ?_ (by first | exact Nat.le_refl _ | assumption | (simp; done) | omega | (simp; omega)) _ | refine below_ext ?_ (by assumption) (by first | exact Nat.le_refl _ | assumption | (simp; done) | omega | (simp; omega)) | refine Ext.drew ?_ | refine Ext.drewN ?_ _ | refine Ext.alloc ?_ _ | refine Ext.setCell ?_ (by first | assumption | (simp; done) | (simp; omega)) _ | refine Below.setCell ?_ (by first | assumption | (simp; done) | (simp; omega)) _ | refine Ext.trans ?_ (by assumption)))⟩
theorem read_far (d : Dev) (w : World) (h : Dev.At w 0 w.heap.size d) (hc : chkE d = 0) (k : Int) (hk : k < 0 ∨ (d.secs.n : Int) ≤ k) :
    Calls Try.prog 14 #[.agg d.cells.toArray, .int .i64 k] w fun e w' => e = .returned (.tuple #[.slice none 0 0, .int .i64 4]) ∧ Ext w w' := by
  have HC := Lib.hid (fun w1 (e : Ext w w1) => chk_any d w1 (h.on e (Nat.le_refl _)))
  rw [hc] at HC
  clear hc h
  obtain ⟨⟨sA, sn, sc, xs⟩, ⟨B, m, k9, ys⟩⟩ := d
  simp only [Dev.cells, Sl.val] at *
  have hcase : k < 0 ∨ (0 ≤ k ∧ (sn : Int) ≤ k) := by omega
  clear hk
  rcases hcase with q0 | ⟨q0, q1⟩
  all_goals
    go_enter Try.func14, Try.ntmps14
    go_wp2_with (go_at_call 15; refine (HC.out _ (by (repeat (first | exact Below.refl _ _ | exact Ext.refl _ | assumption | refine Below.drew ?_ | refine below_drewN ?_ _ | refine below_alloc ?_ (by first | exact Nat.le_refl _ | assumption | (simp; done) | omega | (simp; omega)) _ | refine below_ext ?_ (by assumption) (by first | exact Nat.le_refl _ | assumption | (simp; done) | omega | (simp; omega)) | refine Ext.drew ?_ | refine Ext.drewN ?_ _ | refine Ext.alloc ?_ _ | refine Ext.setCell ?_ (by first | assumption | (simp; done) | (simp; omega)) _ | refine Below.setCell ?_ (by first | assumption | (simp; done) | (simp; omega)) _ | refine Ext.trans ?_ (by assumption))))).mono ?_; rintro e w2 ⟨rfl, e2⟩; obtain ⟨p1, p2⟩ := bcell e2; have z2 : w.heap.size + 3 < w2.heap.size := (by have := e2.size; simp at this; omega); have c0 : w2.cell? ⟨w.heap.size + 2, 0, none⟩ = some (.slice none 0 0) := (by rw [p1 _ _ (by first | (simp; done) | (simp; omega))]; go_simp); have c1 : w2.cell? ⟨w.heap.size + 3, 0, none⟩ = some (.int .i64 0) := (by rw [p1 _ _ (by first | (simp; done) | (simp; omega))]; go_simp); have f0 : w2.frozen? ⟨w.heap.size + 2, 0, none⟩ = false := (by rw [p2 _ _ (by first | (simp; done) | (simp; omega))]; go_simp); have f1 : w2.frozen? ⟨w.heap.size + 3, 0, none⟩ = false := (by rw [p2 _ _ (by first | (simp; done) | (simp; omega))]; go_simp))
    refine bodyPost_ret (v := .tuple #[.slice none 0 0, .int .i64 4]) (by simp [results, Try.results14, go_sem, *]) rfl ⟨rfl, by (repeat (first | exact Below.refl _ _ | exact Ext.refl _ | assumption | refine Below.drew ?_ | refine below_drewN ?_ _ | refine below_alloc ?_ (by first | exact Nat.le_refl _ | assumption | (simp; done) | omega | (simp; omega)) _ | refine below_ext ?_ (by assumption) (by first | exact Nat.le_refl _ | assumption | (simp; done) | omega | (simp; omega)) | refine Ext.drew ?_ | refine Ext.drewN ?_ _ | refine Ext.alloc ?_ _ | refine Ext.setCell ?_ (by first | assumption | (simp; done) | (simp; omega)) _ | refine Below.setCell ?_ (by first | assumption | (simp; done) | (simp; omega)) _ | refine Ext.trans ?_ (by assumption)))⟩
theorem own_kept {W W' : World} {base n : Nat} {v : Value} {e : TypeId} {size : Nat} {cs : List Value} (h : W.ownsRow base e size v n cs) {row : Option Nat} (hg : W.grownBy W' row) (hr : ∀ r, row = some r → ∃ o : Obj, W.heap[r]? = some o ∧ o.isCells = false) : W'.ownsRow base e size v n cs := by
  refine ⟨h.1, ?_⟩
  rcases h.2 with h' | ⟨g, cap, cur, h1, h2, h3, h4⟩
  · exact .inl h'
  · refine .inr ⟨g, cap, cur, h1, h2, (hg.block g (Array.getElem?_eq_some_iff.1 h3).1 fun e => ?_).trans h3, h4⟩
    obtain ⟨o, ho, hc⟩ := hr g e.symm
    rw [h3] at ho
    cases ho
    cases hc
set_option maxRecDepth 100000 in
set_option maxHeartbeats 4000000 in
theorem read_yes (d : Dev) (w : World) (h : Dev.At w 0 w.heap.size d) (hc : chkE d = 0) (k : Nat) (hk : k < d.secs.n) :
    Calls Try.prog 14 #[.agg d.cells.toArray, .int .i64 (k : Int)] w fun e w' => (∃ s : Oct, e = .returned (.tuple #[s.val, .int .i64 0]) ∧ s.xs = readV d.secv d.wv k ∧ Oct.Own w' w.heap.size s) ∧ Ext w w' := by
  have HC := Lib.hid (fun w1 (e : Ext w w1) => (callsIn_wide (n := 3 - 1)).2 (chk_any d w1 (h.on e (Nat.le_refl _))))
  rw [hc] at HC
  obtain ⟨ok0, ok1, ok2, ok3⟩ := chk_ok h.secs.len hc
  have HD := Lib.hid h
  have OK2 := Lib.hid ok2
  have OK3 := Lib.hid ok3
  have hm63 : d.waits.n ≤ 9223372036854775807 := Nat.le_trans h.waits.le h.waits.cap
  have q0 : (0 : Int) ≤ k := by omega
  have q1 : (k : Int) < (d.secs.n : Int) := by omega
  have hk63 : (k : Int) ≤ 9223372036854775807 := by omega
  clear hc h ok2 ok3 hk
  obtain ⟨⟨sA, sn, sc, xs⟩, ⟨B, m, k9, ys⟩⟩ := d
  simp only [Dev.cells, Sl.val] at HC q1 hm63 ok0 ok1 ⊢
  refine (callsIn_wide (n := 3)).1 ?_
  refine callsIn_of_wp_marks Try.func14 rfl trivial ?_ rfl
  simp only [Try.ntmps14, List.size_toArray, List.length_cons, List.length_nil, Nat.reduceAdd, Nat.reduceSub, Array.replicate_succ, Array.replicate_zero, List.push_toArray, List.append_toArray, List.nil_append, List.cons_append]
  gi_wp2_with (first
    | (refine ⟨trivial, ?_⟩; gi_at_call 15; refine (HC.out _ (by (repeat (first | exact Below.refl _ _ | exact Ext.refl _ | assumption | refine Below.drew ?_ | refine below_drewN ?_ _ | refine below_alloc ?_ (by first | exact Nat.le_refl _ | assumption | (simp; done) | omega | (simp; omega)) _ | refine below_ext ?_ (by assumption) (by first | exact Nat.le_refl _ | assumption | (simp; done) | omega | (simp; omega)) | refine Ext.drew ?_ | refine Ext.drewN ?_ _ | refine Ext.alloc ?_ _ | refine Ext.setCell ?_ (by first | assumption | (simp; done) | (simp; omega)) _ | refine Below.setCell ?_ (by first | assumption | (simp; done) | (simp; omega)) _ | refine Ext.trans ?_ (by assumption))))).mono ?_; rintro e w2 ⟨rfl, e2⟩; obtain ⟨p1, p2⟩ := bcell e2; have z2 : w.heap.size + 3 < w2.heap.size := (by have := e2.size; simp at this; omega))
    | (refine ⟨trivial, ?_⟩; gi_at_call 22; refine (backw_in Fence.wide (3 - 1) trivial rfl _ _ _ _).mono ?_; rintro e w' ⟨rfl, rfl⟩))
  have b00 : w2.cell? ⟨w.heap.size, 0, none⟩ = some (.slice sA sn sc) := by rw [p1 _ _ (by first | (simp; done) | (simp; omega))]; go_simp
  have b10 : w2.cell? ⟨w.heap.size + 1, 0, none⟩ = some (.int .i64 (k : Int)) := by rw [p1 _ _ (by first | (simp; done) | (simp; omega))]; go_simp
  have b20 : w2.cell? ⟨w.heap.size + 2, 0, none⟩ = some (.slice none 0 0) := by rw [p1 _ _ (by first | (simp; done) | (simp; omega))]; go_simp
  have b30 : w2.cell? ⟨w.heap.size + 3, 0, none⟩ = some (.int .i64 0) := by rw [p1 _ _ (by first | (simp; done) | (simp; omega))]; go_simp
  have f20 : w2.frozen? ⟨w.heap.size + 2, 0, none⟩ = false := by rw [p2 _ _ (by first | (simp; done) | (simp; omega))]; go_simp
  have f30 : w2.frozen? ⟨w.heap.size + 3, 0, none⟩ = false := by rw [p2 _ _ (by first | (simp; done) | (simp; omega))]; go_simp
  have x2 : Ext w w2 := by (repeat (first | exact Below.refl _ _ | exact Ext.refl _ | assumption | refine Below.drew ?_ | refine below_drewN ?_ _ | refine below_alloc ?_ (by first | exact Nat.le_refl _ | assumption | (simp; done) | omega | (simp; omega)) _ | refine below_ext ?_ (by assumption) (by first | exact Nat.le_refl _ | assumption | (simp; done) | omega | (simp; omega)) | refine Ext.drew ?_ | refine Ext.drewN ?_ _ | refine Ext.alloc ?_ _ | refine Ext.setCell ?_ (by first | assumption | (simp; done) | (simp; omega)) _ | refine Below.setCell ?_ (by first | assumption | (simp; done) | (simp; omega)) _ | refine Ext.trans ?_ (by assumption)))
  clear p1 p2 e2
  generalize hW0 : World.alloc w2 _ = W0
  obtain ⟨e3, z3, G3⟩ := box_cells hW0
  have c00 : W0.cell? ⟨w.heap.size, 0, none⟩ = some (.slice sA sn sc) := by rw [Below.cell e3 (show w.heap.size < w2.heap.size by omega)]; exact b00
  have c10 : W0.cell? ⟨w.heap.size + 1, 0, none⟩ = some (.int .i64 (k : Int)) := by rw [Below.cell e3 (show w.heap.size + 1 < w2.heap.size by omega)]; exact b10
  have c20 : W0.cell? ⟨w.heap.size + 2, 0, none⟩ = some (.slice none 0 0) := by rw [Below.cell e3 (show w.heap.size + 2 < w2.heap.size by omega)]; exact b20
  have c30 : W0.cell? ⟨w.heap.size + 3, 0, none⟩ = some (.int .i64 0) := by rw [Below.cell e3 (show w.heap.size + 3 < w2.heap.size by omega)]; exact b30
  have g20 : W0.frozen? ⟨w.heap.size + 2, 0, none⟩ = false := by rw [Below.frozen e3 (show w.heap.size + 2 < w2.heap.size by omega)]; exact f20
  have g30 : W0.frozen? ⟨w.heap.size + 3, 0, none⟩ = false := by rw [Below.frozen e3 (show w.heap.size + 3 < w2.heap.size by omega)]; exact f30
  have hbx : W0.cell? ⟨w2.heap.size, 0, none⟩ = some (.slice B m k9) := G3 0 _ rfl _ (Ext.refl _)
  have x3 : Ext w W0 := x2.trans e3
  have z0 : w.heap.size + 3 < W0.heap.size := by omega
  have zb : w2.heap.size < W0.heap.size := by omega
  clear hW0 G3 z3 b00 b10 b20 b30 f20 f30
  have hrd : Rd W0 0 W0.heap.size B (ys.flatMap Wrt.cells) := Rd.at HD.out.waits.rd x3 (Nat.le_refl _)
  refine wpIn_rangeFunc_ownH (F := Fence.wide) rfl (by omega) (gf := 27) (lb := #[.pointer (some ⟨w2.heap.size, 0, none⟩)]) rfl trivial (callF Try.func27 (by kernel_rfl) rfl)
    (backw_stops Fence.wide (3 - 1) trivial rfl (by omega) w2.heap.size m k9 B ys HD.out.waits.len hm63 W0 zb hbx hrd) belowK_t (belowK_b (Nat.le_refl _)) (Below.refl _ _) (fun _ => rfl)
    (fun pre W => (∀ x ∈ pre, (wat ys x.1).pos ≠ (k : Int)) ∧ Below W0.heap.size W0 W)
    (fun c pre W => c = .ret ∧ ∃ (p : List (Ix_ m)) (x : Ix_ m) (v : Value), pre = p ++ [x] ∧ (∀ y ∈ p, (wat ys y.1).pos ≠ (k : Int)) ∧ (wat ys x.1).pos = (k : Int) ∧ W.cell? ⟨w.heap.size + 2, 0, none⟩ = some v ∧ W.cell? ⟨w.heap.size + 3, 0, none⟩ = some (.int .i64 0) ∧
      W.ownsRow w.heap.size 5 1 v (wat ys x.1).data.n (bytes (wat ys x.1).data.xs) ∧ Below w.heap.size w W)
    (fun s W W' row hs hg hr => ⟨hs.1, ownFrom_below (β := Unit) (Nat.le_refl _) (Nat.le_refl _) () W W' row hs.2 hg hr⟩)
    (fun c s W W' row ⟨h1, p, x, v, h2, h3, h4, h5, h6, h7, h8⟩ hg hr => ⟨h1, p, x, v, h2, h3, h4, cell_kept h5 hg (fun r e => (hr r e).2), cell_kept h6 hg (fun r e => (hr r e).2), own_kept h7 hg (fun r e => (hr r e).2),
      ownFrom_below (β := Unit) (n₀ := w.heap.size) (B := W0.heap.size) (Nat.le_refl _) (by omega) () W W' row h8 hg hr⟩)
    ⟨fun _ h => by simp at h, Below.refl _ _⟩
    (fun x a' W => ∃ Bx : Nat, W0.heap.size ≤ Bx ∧ W.cell? ⟨Bx, 0, none⟩ = some (.int .i64 (wat ys x.1).pos) ∧ W.cell? ⟨Bx, 1, none⟩ = some (wat ys x.1).data.val ∧ a' = (⟨#[Value.agg #[Value.slice sA sn sc, Value.slice B m k9], Value.int IntKind.i64 ↑k,
          Value.pointer (some { block := w.heap.size, off := 0 }),
          Value.pointer (some { block := w.heap.size + 1, off := 0 }),
          Value.pointer (some { block := w.heap.size + 1 + 1, off := 0 }),
          Value.pointer (some { block := w.heap.size + 1 + 1 + 1, off := 0 }), Value.int IntKind.i64 0, undef, Value.pointer (some ⟨Bx, 0, none⟩),
          Value.agg #[Value.slice sA sn sc, Value.slice B m k9], Value.int IntKind.i64 0, Value.int IntKind.i64 0,
          Value.bool false, undef, Value.int IntKind.i64 ↑k, Value.bool (decide ((k : Int) < 0)), Value.bool (decide ((k : Int) < 0)),
          Value.int IntKind.i64 ↑k, Value.pointer (some { block := w.heap.size, off := 0 }), Value.slice sA sn sc,
          Value.int IntKind.i64 ↑sn, Value.bool false, Value.bool (decide ((k : Int) < 0)),
          Value.pointer (some { block := w.heap.size, off := 1 }), Value.slice B m k9,
          Value.func (Fn.func 27) #[] #[Value.pointer (some { block := w2.heap.size, off := 0 })], Value.int IntKind.i64 (x.1 : Int), Value.agg (wat ys x.1).cells.toArray, undef,
          undef, undef, undef, undef, undef, undef, undef, undef, undef, undef, undef, undef], []⟩ : Act))
    (fun x a' s W W' row ⟨Bx, h1, h2, h3, h4⟩ hg hr => ⟨Bx, h1, cell_kept h2 hg (fun r e => (hr r e).2), cell_kept h3 hg (fun r e => (hr r e).2), h4⟩) ?assign ?body ?done ?stop
  case assign =>
    intro l pre x W K hi hK
    simp only [bwEnc, Wrt.cells, Sl.val] at hK ⊢
    gi_wp2
    have hsz := hi.2.size
    refine hK _ _ ((KeepsOthers.alloc _ _).from _) ((Below.refl _ W).alloc hsz _) ⟨hi.1, hi.2.alloc hsz _⟩ ⟨W.heap.size, hsz, ?_, ?_, rfl⟩
    · exact cell_new W _ _ 0 rfl
    · exact cell_new W _ _ 1 rfl
  case body =>
    rintro l pre x a' W hl ⟨r, hr⟩ ⟨hno, hB⟩ ⟨Bx, hBx, d0, d1, rfl⟩ hlt
    have hNo := Lib.hid hno
    clear hno
    have hx : (wat ys x.1) ∈ ys := by
      have hxl : x.1 < ys.length := by have h9 : m = ys.length := HD.out.waits.len; have := x.2; omega
      have : wat ys x.1 = ys[x.1] := by simp [wat, hxl]
      rw [this]
      exact List.getElem_mem _
    have hx3 := OK3.out _ hx
    have hxa := HD.out.waits.all _ hx
    have hszW := hB.size
    have v1 : W.cell? ⟨w.heap.size + 1, 0, none⟩ = some (.int .i64 (k : Int)) := (Below.cell (p := ⟨w.heap.size + 1, 0, none⟩) hB (by show w.heap.size + 1 < W0.heap.size; omega)).trans c10
    have v2 : W.cell? ⟨w.heap.size + 2, 0, none⟩ = some (.slice none 0 0) := (Below.cell (p := ⟨w.heap.size + 2, 0, none⟩) hB (by show w.heap.size + 2 < W0.heap.size; omega)).trans c20
    have v3 : W.cell? ⟨w.heap.size + 3, 0, none⟩ = some (.int .i64 0) := (Below.cell (p := ⟨w.heap.size + 3, 0, none⟩) hB (by show w.heap.size + 3 < W0.heap.size; omega)).trans c30
    have u2 : W.frozen? ⟨w.heap.size + 2, 0, none⟩ = false := (Below.frozen (p := ⟨w.heap.size + 2, 0, none⟩) hB (by show w.heap.size + 2 < W0.heap.size; omega)).trans g20
    have u3 : W.frozen? ⟨w.heap.size + 3, 0, none⟩ = false := (Below.frozen (p := ⟨w.heap.size + 3, 0, none⟩) hB (by show w.heap.size + 3 < W0.heap.size; omega)).trans g30
    have xW : Ext w W := Below.trans x3 (Below.mono hB (by omega))
    have HC2 := Lib.hid ((callsIn_wide (n := 3 - 1 - 1 - 1)).2 (cloneb_any W W0.heap.size hszW (wat ys x.1).data.A (wat ys x.1).data.n (wat ys x.1).data.c (wat ys x.1).data.xs hxa.data.len (Oct.At.rdb (rd_sl hxa.data xW (Nat.le_refl _))) (by rw [hx3.2.2]; omega)))
    have HE := Lib.hid (show (wat ys x.1).pos = (wat ys x.1).pos from rfl)
    clear hx hx3 hxa HE
    by_cases hp : (wat ys x.1).pos = (k : Int)
    · have hpb : ((wat ys x.1).pos == (k : Int)) = true := by simpa using hp
      have Hp := Lib.hid hp
      clear hp
      simp only [Sl.val] at d1
      gi_wp2_with (refine ⟨trivial, ?_⟩; gi_at_call 20; refine (CallsIn.inRound l HC2.out).mono ?_; rintro e w7 ⟨v, rfl, ho, e7⟩; obtain ⟨vA, vc, rfl, _, _, _⟩ := own_form ho; have z7 := e7.size; have s2 : w7.cell? ⟨w.heap.size + 2, 0, none⟩ = some (.slice none 0 0) := (Below.cell (p := ⟨w.heap.size + 2, 0, none⟩) e7 (by show w.heap.size + 2 < W.heap.size; omega)).trans v2; have s3 : w7.cell? ⟨w.heap.size + 3, 0, none⟩ = some (.int .i64 0) := (Below.cell (p := ⟨w.heap.size + 3, 0, none⟩) e7 (by show w.heap.size + 3 < W.heap.size; omega)).trans v3; have t2 : w7.frozen? ⟨w.heap.size + 2, 0, none⟩ = false := (Below.frozen (p := ⟨w.heap.size + 2, 0, none⟩) e7 (by show w.heap.size + 2 < W.heap.size; omega)).trans u2; have t3 : w7.frozen? ⟨w.heap.size + 3, 0, none⟩ = false := (Below.frozen (p := ⟨w.heap.size + 3, 0, none⟩) e7 (by show w.heap.size + 3 < W.heap.size; omega)).trans u3)
      refine ⟨((keepsFrom_ext e7 _).trans ((KeepsOthers.setCell _ _ _).from _)).trans ((KeepsOthers.setCell _ _ _).from _), rfl, pre, x, _, rfl, hNo.out, Hp.out,
        (World.cell?_setCell_other _ _ _ _ (by simp)).trans (World.cell?_setCell_same _ _ _ s2), World.cell?_setCell_same _ _ _ ((World.cell?_setCell_other _ _ _ _ (by simp)).trans s3),
        own_lower (own_set (own_set ho (p := ⟨w.heap.size + 2, 0, none⟩) (by show w.heap.size + 2 < W0.heap.size; omega) _) (p := ⟨w.heap.size + 3, 0, none⟩) (by show w.heap.size + 3 < W0.heap.size; omega) _) (by omega),
        ((Below.trans xW (Below.mono e7 xW.size)).setCell (p := ⟨w.heap.size + 2, 0, none⟩) (by show w.heap.size ≤ w.heap.size + 2; omega) _).setCell (p := ⟨w.heap.size + 3, 0, none⟩) (by show w.heap.size ≤ w.heap.size + 3; omega) _⟩
    · have hpb : ((wat ys x.1).pos == (k : Int)) = false := by simpa using hp
      have Hp := Lib.hid hp
      clear hp
      gi_wp2
      refine ⟨KeepsFrom.refl _ _, Below.refl _ _, fun y hy => ?_, hB⟩
      rcases List.mem_append.1 hy with h' | h'
      · exact hNo.out y h'
      · simp only [List.mem_singleton] at h'
        subst h'
        exact Hp.out
  case done =>
    rintro D zs W hD hzs ⟨hno, hB⟩ hK
    have xW : Ext w W := Below.trans x3 (Below.mono hB (by omega))
    have hlen : m = ys.length := HD.out.waits.len
    have hslen : sn = xs.length := HD.out.secs.len
    have hszW := hB.size
    have hkl : k < xs.length := by omega
    have HR := Lib.hid (show xs[k].xs = readV (xs.map (·.xs)) (ys.map Wrt.abs) k by
      rw [readV_miss ys _ k (fun i hi => by
        have h7 : i ∈ zs.map (·.1) := by
          rw [hzs, downTo, List.mem_map]
          exact ⟨m - 1 - i, by rw [List.mem_range]; omega, by omega⟩
        obtain ⟨y, hy, rfl⟩ := List.mem_map.1 h7
        exact hno y hy)]
      simp [List.getD, hkl])
    obtain ⟨q1', q2', hA, _, hq1', G0⟩ := rd_flat (size := 1) (fun _ => rfl) (by omega) HD.out.secs.rd hkl
    have hxa : Oct.At w 0 w.heap.size xs[k] := HD.out.secs.all _ (List.getElem_mem _)
    have hx64 : xs[k].n = 64 := OK2.out _ (List.getElem_mem _)
    have hxl := Lib.hid hxa.len
    have HC2 := Lib.hid ((callsIn_wide (n := 3 - 1)).2 (cloneb_any W W0.heap.size hszW xs[k].A xs[k].n xs[k].c xs[k].xs hxa.len (Oct.At.rdb (rd_sl hxa xW (Nat.le_refl _))) (by rw [hx64]; omega)))
    have gs : W.cell? ⟨q1', q2' + k, none⟩ = some xs[k].val := (Below.cell (p := ⟨q1', q2' + k, none⟩) xW hq1').trans (by simpa using G0 0 _ rfl)
    have hA' : sA = some ⟨q1', q2', none⟩ := hA
    subst hA'
    clear hno hzs hA hxa hx64 G0
    generalize xs[k] = y at *
    simp only [Sl.val] at gs
    have v0 : W.cell? ⟨w.heap.size, 0, none⟩ = some (.slice (some ⟨q1', q2', none⟩) sn sc) := (Below.cell (p := ⟨w.heap.size, 0, none⟩) hB (by show w.heap.size < W0.heap.size; omega)).trans c00
    have v1 : W.cell? ⟨w.heap.size + 1, 0, none⟩ = some (.int .i64 (k : Int)) := (Below.cell (p := ⟨w.heap.size + 1, 0, none⟩) hB (by show w.heap.size + 1 < W0.heap.size; omega)).trans c10
    have v2 : W.cell? ⟨w.heap.size + 2, 0, none⟩ = some (.slice none 0 0) := (Below.cell (p := ⟨w.heap.size + 2, 0, none⟩) hB (by show w.heap.size + 2 < W0.heap.size; omega)).trans c20
    have v3 : W.cell? ⟨w.heap.size + 3, 0, none⟩ = some (.int .i64 0) := (Below.cell (p := ⟨w.heap.size + 3, 0, none⟩) hB (by show w.heap.size + 3 < W0.heap.size; omega)).trans c30
    have u2 : W.frozen? ⟨w.heap.size + 2, 0, none⟩ = false := (Below.frozen (p := ⟨w.heap.size + 2, 0, none⟩) hB (by show w.heap.size + 2 < W0.heap.size; omega)).trans g20
    have u3 : W.frozen? ⟨w.heap.size + 3, 0, none⟩ = false := (Below.frozen (p := ⟨w.heap.size + 3, 0, none⟩) hB (by show w.heap.size + 3 < W0.heap.size; omega)).trans g30
    have HY := Lib.hid hlen
    have HZ := Lib.hid hslen
    clear hlen hslen hkl
    gi_wp2_with (refine ⟨trivial, ?_⟩; gi_at_call 20; refine HC2.out.mono ?_; rintro e w7 ⟨v, rfl, ho, e7⟩; obtain ⟨vA, vc, rfl, _, _, _⟩ := own_form ho; have z7 := e7.size; have s2 : w7.cell? ⟨w.heap.size + 2, 0, none⟩ = some (.slice none 0 0) := (Below.cell (p := ⟨w.heap.size + 2, 0, none⟩) e7 (by show w.heap.size + 2 < W.heap.size; omega)).trans v2; have s3 : w7.cell? ⟨w.heap.size + 3, 0, none⟩ = some (.int .i64 0) := (Below.cell (p := ⟨w.heap.size + 3, 0, none⟩) e7 (by show w.heap.size + 3 < W.heap.size; omega)).trans v3; have t2 : w7.frozen? ⟨w.heap.size + 2, 0, none⟩ = false := (Below.frozen (p := ⟨w.heap.size + 2, 0, none⟩) e7 (by show w.heap.size + 2 < W.heap.size; omega)).trans u2; have t3 : w7.frozen? ⟨w.heap.size + 3, 0, none⟩ = false := (Below.frozen (p := ⟨w.heap.size + 3, 0, none⟩) e7 (by show w.heap.size + 3 < W.heap.size; omega)).trans u3)
    have hK7 : w7.heap[D]? = some (Obj.deferred (some [])) := (Below.block e7 D (Array.getElem?_eq_some_iff.1 hK).1).trans hK
    generalize hW9 : World.setCell _ _ _ = W9
    have hK9 : W9.heap[D]? = some (Obj.deferred (some [])) := by
      rw [← hW9]
      exact (KeepsOthers.setCell _ _ _).same D _ ((KeepsOthers.setCell _ _ _).same D _ hK7 rfl) rfl
    have j2 : W9.cell? ⟨w.heap.size + 2, 0, none⟩ = some (.slice vA y.n vc) := by
      rw [← hW9]
      exact (World.cell?_setCell_other _ _ _ _ (by simp)).trans (World.cell?_setCell_same _ _ _ s2)
    have j3 : W9.cell? ⟨w.heap.size + 3, 0, none⟩ = some (.int .i64 0) := by
      rw [← hW9]
      exact World.cell?_setCell_same _ _ _ ((World.cell?_setCell_other _ _ _ _ (by simp)).trans s3)
    have jo : W9.ownsRow w.heap.size 5 1 (.slice vA y.n vc) y.n (bytes y.xs) := by
      rw [← hW9]
      exact own_lower (own_set (own_set ho (p := ⟨w.heap.size + 2, 0, none⟩) (by show w.heap.size + 2 < W0.heap.size; omega) _) (p := ⟨w.heap.size + 3, 0, none⟩) (by show w.heap.size + 3 < W0.heap.size; omega) _) (by omega)
    have jb : Below w.heap.size w W9 := by
      rw [← hW9]
      exact ((Below.trans xW (Below.mono e7 xW.size)).setCell (p := ⟨w.heap.size + 2, 0, none⟩) (by show w.heap.size ≤ w.heap.size + 2; omega) _).setCell (p := ⟨w.heap.size + 3, 0, none⟩) (by show w.heap.size ≤ w.heap.size + 3; omega) _
    clear hW9
    refine ⟨by simp, .inl ⟨_, _, rfl, run_takeDeferred hK9, ?_⟩⟩
    have k2 := cell_kept j2 (grownBy_putObj' W9 D (.deferred none)) (fun r e => by cases e; exact ⟨_, hK9, rfl⟩)
    have k3 := cell_kept j3 (grownBy_putObj' W9 D (.deferred none)) (fun r e => by cases e; exact ⟨_, hK9, rfl⟩)
    obtain ⟨s, hs1, hs2, hs3⟩ := oct_own (own_kept jo (grownBy_putObj' W9 D (.deferred none)) (fun r e => by cases e; exact ⟨_, hK9, rfl⟩)) hxl.out
    have kb : Ext w (W9.putObj D (.deferred none)) := Below.trans jb (belowK_b (w := w) (Nat.le_refl _) W9 D _ _ (by omega) hK9 rfl rfl)
    refine ⟨.tuple #[.slice vA y.n vc, .int .i64 0], by simp [results, Try.results14, go_sem, k2, k3], ⟨s, by rw [hs1]; rfl, by rw [hs2]; exact HR.out, hs3⟩, kb⟩
  case stop =>
    rintro D c pre W hD hS ⟨rfl, p, x, v, rfl, hno, hp, h4, h5, hown, hB⟩ hK
    have hlen : m = ys.length := HD.out.waits.len
    have HR := Lib.hid (show (wat ys x.1).data.xs = readV (xs.map (·.xs)) (ys.map Wrt.abs) k by
      rw [List.map_append, List.length_append, List.length_singleton, List.map_singleton] at hS
      have hpl : (p.map (·.1)).length = p.length := List.length_map ..
      have h6 : p.map (·.1) = downTo m p.length ∧ x.1 = m - 1 - p.length := by
        rw [downTo, List.range_succ, List.map_append, List.map_singleton] at hS
        have := List.append_inj' hS rfl
        exact ⟨this.1, by simpa using this.2⟩
      refine (readV_hit ys _ k x.1 (by have := x.2; omega) hp fun i hi hi2 => ?_).symm
      have h7 : i ∈ p.map (·.1) := by
        rw [h6.1, downTo, List.mem_map]
        exact ⟨m - 1 - i, by rw [List.mem_range]; omega, by omega⟩
      obtain ⟨y, hy, rfl⟩ := List.mem_map.1 h7
      exact hno y hy)
    clear hS hno hp
    gi_wp2
    refine ⟨by simp, .inl ⟨_, _, rfl, run_takeDeferred hK, ?_⟩⟩
    have k2 := cell_kept h4 (grownBy_putObj' W D (.deferred none)) (fun r e => by cases e; exact ⟨_, hK, rfl⟩)
    have k3 := cell_kept h5 (grownBy_putObj' W D (.deferred none)) (fun r e => by cases e; exact ⟨_, hK, rfl⟩)
    have hx : (wat ys x.1) ∈ ys := by
      have hxl : x.1 < ys.length := by have := x.2; omega
      have : wat ys x.1 = ys[x.1] := by simp [wat, hxl]
      rw [this]
      exact List.getElem_mem _
    obtain ⟨s, hs1, hs2, hs3⟩ := oct_own (own_kept hown (grownBy_putObj' W D (.deferred none)) (fun r e => by cases e; exact ⟨_, hK, rfl⟩)) (HD.out.waits.all _ hx).data.len
    have kb : Ext w (W.putObj D (.deferred none)) := Below.trans hB (belowK_b (w := w) (Nat.le_refl _) W D _ _ (by omega) hK rfl rfl)
    refine ⟨.tuple #[v, .int .i64 0], by simp [results, Try.results14, go_sem, k2, k3], ⟨s, by rw [hs1]; rfl, by rw [hs2]; exact HR.out, hs3⟩, kb⟩
end Go.Proofs.Ythjpjhcbefhpbaa
