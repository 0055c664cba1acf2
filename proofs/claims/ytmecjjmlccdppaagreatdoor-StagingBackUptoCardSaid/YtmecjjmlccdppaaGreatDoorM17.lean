/- The texts Ins, Bs in one file. -/
import Derived.Test.YtmecjjmlccdppaaGreatDoorM16
import Derived.Lib.AppendZerosOnto
import Derived.Lib.Overlaps
import Derived.Lib.JoinLaws
import Derived.Laws.Externs
import Derived.Laws.IdiomCopy
import Derived.Laws.NewBlocks
import Derived.Shelf.RegionOpenPlain
import Derived.Test.YtmecjjmlccdppaaGreatDoorM15
/- slices.Insert of one block into a row of the call's own: the walk (the three roads: at the end, with room, without). -/
namespace Go.Proofs.YtmecjjmlccdppaaGreatDoor
open Go.RowKit
set_option linter.unusedVariables false
set_option linter.unusedSimpArgs false

section
variable {P : Program}
theorem sizeOf_run' {t : TypeId} {n : Nat} (h : (P.info? t).map (·.size) = some n) (w : World) : (sizeOf t).run P w = .ok n w := by
  cases hq : P.info? t with
  | none => simp [hq] at h
  | some i =>
    have : i.size = n := by simpa [hq] using h
    simp [sizeOf, typeInfo, hq, this]
/-- 'copy' between rows of elements of whatever size -/
theorem run_copy_sz (w : World) (dT sT ty elem : TypeId) (size b o dLen dCap : Nat) (a : Addr) (sLen sCap : Nat) (cs : List Value)
    (hu : P.underlying dT = some (.slice elem)) (hs : (P.info? elem).map (·.size) = some size) (hn : cs.length = Nat.min sLen dLen * size)
    (hsrc : ∀ j v, cs[j]? = some v → w.cell? (a.add j) = some v) (hc : ∀ j, j < cs.length → (w.cell? ⟨b, o + j, none⟩).isSome = true) (hf : ∀ j, j < cs.length → w.frozen? ⟨b, o + j, none⟩ = false) (h1 : ∀ v ∈ cs, v.oneCell' = true) :
    (Builtin.copy_ #[dT, sT] ty #[.slice (some ⟨b, o, none⟩) dLen dCap, .slice (some a) sLen sCap]).run P w = .ok (goInt (Nat.min sLen dLen : Nat)) (w.setCells b o cs) := by
  have hl := run_loadCells_list (P := P) w a cs hsrc
  have hst := run_storeCells_cells (P := P) b o cs 0 w (by simpa using hc) (by simpa using hf) h1
  cases hq : P.info? elem with
  | none => simp [hq] at hs
  | some i =>
    have hi : i.size = size := by simpa [hq] using hs
    rw [hn] at hl
    simp [Builtin.copy_, run_underlying hu, Builtin.lenOf, Builtin.firstCells, sizeOf, typeInfo, hq, hi, hl, hst]
theorem wp_copy_runJ (w : World) {o : Oper} {a : Act} {K : Act → World → Prop} {Q : Exit → Act → World → Prop} (d s : Operand) (t t' : TypeId)
    (ho : o.op = .call { callee := .builtin .copy, args := #[d, s], argTypes := #[t, t'] }) (v u : Value) (hd : a.eval d = v) (hs : a.eval s = u) {v' : Value} {w' : World}
    (hr : (Builtin.copy_ #[t, t'] o.type #[v, u]).run P w = .ok v' w') (h : K (a.put o.dst v') w') : o.wp P a w K Q := by
  unfold Oper.wp execOp
  simp only [ho, resolve, invoke, builtin, Sem.run_bind, Sem.run_pure, Result.andThen_ok, List.map_toArray, List.map_cons, List.map_nil, hd, hs, hr]
  exact h
theorem wpList_copy_runJ (w : World) {ops : Array Oper} {rest : List Oper} {o : Oper} {a : Act} {Q : Exit → Act → World → Prop} (hgd : o.guard = none) (d s : Operand) (t t' : TypeId)
    (ho : o.op = .call { callee := .builtin .copy, args := #[d, s], argTypes := #[t, t'] }) (v u : Value) (hd : a.eval d = v) (hs : a.eval s = u) {v' : Value} {w' : World}
    (hr : (Builtin.copy_ #[t, t'] o.type #[v, u]).run P w = .ok v' w') (h : wpList P ops Q rest (a.put o.dst v') w') : wpList P ops Q (o :: rest) a w :=
  wpList_plain hgd fun _ hK => wp_copy_runJ w d s t t' ho v u hd hs hr (hK _ _ h)
theorem step_copy_runJ {ops : Array Oper} {o : Oper} {a : Act} {w : World} {K : Act → World → Prop} {Q : Exit → Act → World → Prop} {E : Prop}
    (hg : o.guard = none) (d x : Operand) (dT sT : TypeId) (hop : o.op = Op.call { callee := Callee.builtin Builtin.copy, args := #[d, x], argTypes := #[dT, sT] })
    (v u : Value) (hd : a.eval d = v) (hx : a.eval x = u) {v' : Value} {w' : World} (hr : (Builtin.copy_ #[dT, sT] o.type #[v, u]).run P w = .ok v' w') (hK : K (a.put o.dst v') w') :
    if Region.wanted o (yielded ops a.tmps) = true then Oper.wp P o a w K Q else E := by
  have hw : Region.wanted o (yielded ops a.tmps) = true := by simp [Region.wanted, hg]
  rw [if_pos hw]
  exact wp_copy_runJ w d x dT sT hop v u hd hx hr hK
end
theorem isSome_sets (b : Nat) (vs : List Value) (o : Nat) (w : World) (h : ∀ j, j < vs.length → (w.cell? ⟨b, o + j, none⟩).isSome = true) (k : Nat) (hk : (w.cell? ⟨b, k, none⟩).isSome = true) : ((w.setCells b o vs).cell? ⟨b, k, none⟩).isSome = true := by
  by_cases hin : o ≤ k ∧ k < o + vs.length
  · have := World.cell?_setCells_in b vs o w h (k - o) (by omega)
    rw [show o + (k - o) = k by omega] at this
    rw [this]; rfl
  · rw [World.cell?_setCells_out b vs o w ⟨b, k, none⟩ (fun _ _ => by show k < o ∨ o + vs.length ≤ k; omega)]
    exact hk
/-- what stands in a row behind two copies into it -/
theorem spliced {w w' : World} {g p m : Nat} {ys vs zs : List Value} (hp : ys.length = p) (hm : vs.length = m) (ha : ∀ j u, ys[j]? = some u → w.cell? ⟨g, j, none⟩ = some u) (hc : ∀ j, j < p + m + zs.length → (w.cell? ⟨g, j, none⟩).isSome = true)
    (hw : w' = (w.setCells g (p + m) zs).setCells g p vs ∨ w' = (w.setCells g p vs).setCells g (p + m) zs) : ∀ j u, (ys ++ vs ++ zs)[j]? = some u → w'.cell? ⟨g, j, none⟩ = some u := by
  have hz : ∀ W : World, (∀ j, j < p + m + zs.length → (W.cell? ⟨g, j, none⟩).isSome = true) → ∀ j, j < zs.length → (W.cell? ⟨g, p + m + j, none⟩).isSome = true := fun W h j hj => h _ (by omega)
  have hv : ∀ W : World, (∀ j, j < p + m + zs.length → (W.cell? ⟨g, j, none⟩).isSome = true) → ∀ j, j < vs.length → (W.cell? ⟨g, p + j, none⟩).isSome = true := fun W h j hj => h _ (by omega)
  intro j u hu
  have hj : j < p + m + zs.length := by
    have := (List.getElem?_eq_some_iff.1 hu).1
    simp only [List.length_append, hp, hm] at this
    exact this
  rcases Nat.lt_or_ge j p with h1 | h1
  · rw [List.getElem?_append_left (by simp; omega), List.getElem?_append_left (by omega)] at hu
    rcases hw with rfl | rfl
    · rw [World.cell?_setCells_out g vs p _ ⟨g, j, none⟩ (fun _ _ => by show j < p ∨ p + vs.length ≤ j; omega), World.cell?_setCells_out g zs (p + m) _ ⟨g, j, none⟩ (fun _ _ => by show j < p + m ∨ p + m + zs.length ≤ j; omega)]
      exact ha j u hu
    · rw [World.cell?_setCells_out g zs (p + m) _ ⟨g, j, none⟩ (fun _ _ => by show j < p + m ∨ p + m + zs.length ≤ j; omega), World.cell?_setCells_out g vs p _ ⟨g, j, none⟩ (fun _ _ => by show j < p ∨ p + vs.length ≤ j; omega)]
      exact ha j u hu
  · rcases Nat.lt_or_ge j (p + m) with h2 | h2
    · rw [List.getElem?_append_left (by simp; omega), List.getElem?_append_right (by omega), hp] at hu
      rcases hw with rfl | rfl
      · have := World.cell?_setCells_in g vs p (w.setCells g (p + m) zs) (fun t ht => isSome_sets g zs (p + m) w (hz w hc) _ (hc _ (by omega))) (j - p) (by omega)
        rw [show p + (j - p) = j by omega] at this
        rw [this, ← hu, List.getElem?_eq_getElem (by omega)]
      · rw [World.cell?_setCells_out g zs (p + m) _ ⟨g, j, none⟩ (fun _ _ => by show j < p + m ∨ p + m + zs.length ≤ j; omega)]
        have := World.cell?_setCells_in g vs p w (hv w hc) (j - p) (by omega)
        rw [show p + (j - p) = j by omega] at this
        rw [this, ← hu, List.getElem?_eq_getElem (by omega)]
    · rw [List.getElem?_append_right (by simp; omega)] at hu
      simp only [List.length_append, hp, hm] at hu
      rcases hw with rfl | rfl
      · rw [World.cell?_setCells_out g vs p _ ⟨g, j, none⟩ (fun _ _ => by show j < p ∨ p + vs.length ≤ j; omega)]
        have := World.cell?_setCells_in g zs (p + m) w (hz w hc) (j - (p + m)) (by omega)
        rw [show p + m + (j - (p + m)) = j by omega] at this
        rw [this, ← hu, List.getElem?_eq_getElem (by omega)]
      · have := World.cell?_setCells_in g zs (p + m) (w.setCells g p vs) (fun t ht => isSome_sets g vs p w (hv w hc) _ (hc _ (by omega))) (j - (p + m)) (by omega)
        rw [show p + m + (j - (p + m)) = j by omega] at this
        rw [this, ← hu, List.getElem?_eq_getElem (by omega)]
/-- a block more, at place i -/
def insd (xs : List Blk) (i : Nat) (y : Blk) : List Blk := xs.take i ++ [y] ++ xs.drop i
def InsOut (w : World) (base : Nat) (zs : List Blk) (e : Ending) (w' : World) : Prop :=
  ∃ (A : Option Addr) (c : Nat), e = .returned (.slice A zs.length c) ∧ zs.length ≤ c ∧ c ≤ 9223372036854775807 ∧ Rd w' base w'.heap.size A (blks zs) ∧ Below base w w'

set_option maxRecDepth 100000 in
set_option maxHeartbeats 4000000 in
/-- at the end -/
theorem ins_end (w : World) (base : Nat) (v : Value) (n : Nat) (xs : List Blk) (y : Blk) (hn : n = xs.length) (hN : n ≤ 100000000000) (hown : w.ownsRow base 46 2 v n (blks xs)) (hb : base ≤ w.heap.size) (vb : Nat) (hv : Rd w 0 w.heap.size (some ⟨vb, 0, none⟩) (Blk.cells y)) :
    Calls Tryz.prog 75 #[v, .int .i64 n, .slice (some ⟨vb, 0, none⟩) 1 1] w (InsOut w base (insd xs n y)) := by
  obtain ⟨i0, hi0, hz0, hz1, hz2⟩ := info_parts infoB
  obtain ⟨A, c, rfl, hnc, hcm, hnil⟩ := own_form hown
  have hsl : ∀ W, (Instr.slice 28 (.slice A n c) (some (.int .i64 (n : Int))) none none).run Tryz.prog W = .ok (.slice (shiftA A c n 2) 0 (c - n)) W := fun W => by
    have := run_slice_from (P := Tryz.prog) W 28 46 i0 2 Tryz.underlying28 hi0 hz1 A n c n _ rfl (Nat.le_refl _)
    rwa [Nat.sub_self] at this
  have Hn := Lib.hid hn
  have HOwn := Lib.hid hown
  have HV := Lib.hid hv
  have hm1 : n + 1 ≤ maxLen := by simp only [maxLen]; omega
  have HM := Lib.hid hm1
  clear hn hown hv hnil hm1
  go_enter Tryz.func75, Tryz.ntmps75
  go_upto_region 7 with fail
  iterate 60 (first | at_builtin | go_step)
  refine list_app _ rfl (.tmp 23) (.tmp 24) _ rfl 46 i0 _ 2 24 Tryz.underlying28 hi0 hz0 hz1 hz2 rfl (by omega) base _ n (blks xs) rfl HOwn.out 0 _ _ 1 1 (Blk.cells y) rfl rfl HV.out (by simp [Blk.cells, Value.oneCell']) HM.out (by omega) hb ?_
  intro v1 w1 hown1 he1 _ hg1
  obtain ⟨A1, c1, rfl, hnc1, hcm1, _⟩ := own_form hown1
  have HOwn1 := Lib.hid hown1
  clear hown1 he1
  have HG := Lib.hid hg1
  clear hg1
  go_wp2_with fail
  go_ret
  have hz : insd xs n y = xs ++ [y] := by rw [insd, Hn.out, List.take_length, List.drop_length, List.append_nil]
  have hl : (insd xs n y).length = n + 1 := by rw [hz, List.length_append, ← Hn.out]; rfl
  refine ⟨A1, c1, by rw [hl]; rfl, by rw [hl]; exact hnc1, by simpa [maxLen] using hcm1, ?_, bl_grown (Below.refl _ _) HOwn.out HG.out (Nat.le_refl _) hb⟩
  rw [hz, blks_append]
  exact Rd.of_own HOwn1.out

theorem sliceD {w : World} {base : Nat} {e : TypeId} {size n c g : Nat} {xs : List Value} (h : w.ownsRow base e size (.slice (some ⟨g, 0, none⟩) n c) n xs) :
    base ≤ g ∧ n ≤ c ∧ c ≤ maxLen ∧ (∃ k, w.shape? g = some (e, k) ∧ k = c * size) ∧ (∀ j, j < c * size → (w.cell? ⟨g, j, none⟩).isSome = true) ∧ (∀ j, w.frozen? ⟨g, j, none⟩ = false) ∧ (∀ j u, xs[j]? = some u → w.cell? ⟨g, j, none⟩ = some u) := by
  rcases h.2 with ⟨hv, _⟩ | ⟨g', cap, cur, hv, hb, hh, h1, h2, h3, h4⟩
  · cases hv
  · simp only [Value.slice.injEq, Option.some.injEq, Addr.mk.injEq, and_true, true_and] at hv
    obtain ⟨rfl, rfl⟩ := hv
    refine ⟨hb, h1, h2, ⟨_, by simp [World.shape?, hh], h3⟩, fun j hj => ?_, fun j => by simp [World.frozen?, hh], fun j u hu => ?_⟩
    · simp only [World.cell?, hh]
      simp [Array.getElem?_eq_getElem (show j < cur.size by rw [h3]; exact hj)]
    · have := h.cells (g := g) rfl j u hu
      rwa [add_lit, Nat.zero_add] at this

set_option maxRecDepth 100000 in
set_option maxHeartbeats 8000000 in
/-- with room -/
theorem ins_room (w : World) (base g : Nat) (n c i : Nat) (xs : List Blk) (y : Blk) (hn : n = xs.length) (hN : n ≤ 100000000000) (hi : i < n) (hroom : n + 1 ≤ c) (hown : w.ownsRow base 46 2 (.slice (some ⟨g, 0, none⟩) n c) n (blks xs)) (hb : base ≤ w.heap.size)
    (vb : Nat) (hvg : vb ≠ g) (hvw : vb < w.heap.size) (hv : ∀ j u, (Blk.cells y)[j]? = some u → w.cell? ⟨vb, j, none⟩ = some u) (tA : TypeId) (kA : Nat) (hsa : w.shape? vb = some (tA, kA)) (hfa : w.frozen? ⟨vb, 0, none⟩ = false) (hfe : w.frozen? ⟨vb, kA, none⟩ = false) :
    Calls Tryz.prog 75 #[.slice (some ⟨g, 0, none⟩) n c, .int .i64 i, .slice (some ⟨vb, 0, none⟩) 1 1] w (InsOut w base (insd xs i y)) := by
  obtain ⟨i0, hi0, hz0, hz1, hz2⟩ := info_parts infoB
  obtain ⟨hbg, hnc, hcm, ⟨kB, hsb, hkB⟩, hcells, hfz, hcs⟩ := sliceD hown
  simp only [maxLen] at hcm
  have hsz : (Tryz.prog.info? 46).map (·.size) = some 2 := by rw [hi0]; simp [hz1]
  have hl : (blks xs).length = n * 2 := by rw [blks_length, hn]
  have hdl : ((blks xs).drop (i * 2)).length = (n - i) * 2 := by rw [List.length_drop, hl]; omega
  have hov : ∀ o lb cb, (callFunc 106 #[.slice (some ⟨vb, 0, none⟩) 1 1, .slice (some ⟨g, o, none⟩) lb cb]).run Tryz.prog w = .ok (.value (.bool false)) w := fun o lb cb => by
    rw [run_callFunc_extern Tryz.func106 (by kernel_rfl) (by kernel_rfl) (by kernel_rfl) (e := Extern.SlicesOverlaps.overlaps #[28, 28] #[4]) (by kernel_rfl),
      Lib.run_overlaps_apart w 28 4 46 Tryz.underlying28 2 (fun W => sizeOf_run' hsz W) ⟨vb, 0, none⟩ ⟨g, o, none⟩ 1 1 lb cb hvg tA _ kA kB hsa hsb (by omega) hfa hfe]
    rfl
  have hcp1 : ∀ ty dc sc, (Builtin.copy_ #[28, 28] ty #[.slice (some ⟨g, (i + 1) * 2, none⟩) (n - i) dc, .slice (some ⟨g, i * 2, none⟩) (n + 1 - i) sc]).run Tryz.prog w.drew = .ok (goInt ((n - i : Nat) : Int)) (w.drew.setCells g ((i + 1) * 2) ((blks xs).drop (i * 2))) := fun ty dc sc => by
    have hmin : Nat.min (n + 1 - i) (n - i) = n - i := by simp only [Nat.min_def]; split <;> omega
    have := run_copy_sz (P := Tryz.prog) w.drew 28 28 ty 46 2 g ((i + 1) * 2) (n - i) dc ⟨g, i * 2, none⟩ (n + 1 - i) sc ((blks xs).drop (i * 2)) Tryz.underlying28 hsz (by rw [hdl, hmin])
      (fun j v hj => by rw [add_lit]; exact hcs _ v (by rwa [List.getElem?_drop] at hj)) (fun j hj => hcells _ (by rw [hdl] at hj; omega)) (fun j hj => hfz _) (fun v hv => blks_one xs v (List.mem_of_mem_drop hv))
    rwa [hmin] at this
  obtain ⟨W1, hW1⟩ : ∃ W1, W1 = w.drew.setCells g ((i + 1) * 2) ((blks xs).drop (i * 2)) := ⟨_, rfl⟩
  have hc1 : ∀ k, k < c * 2 → (W1.cell? ⟨g, k, none⟩).isSome = true := fun k hk => by
    rw [hW1]
    exact isSome_sets g _ ((i + 1) * 2) w.drew (fun j hj => hcells ((i + 1) * 2 + j) (by rw [hdl] at hj; omega)) k (hcells k hk)
  have hcp2 : ∀ (W : World), (∀ x, W.cell? x = W1.cell? x) → (∀ x, W.frozen? x = W1.frozen? x) → ∀ ty dc, (Builtin.copy_ #[28, 28] ty #[.slice (some ⟨g, i * 2, none⟩) (n + 1 - i) dc, .slice (some ⟨vb, 0, none⟩) 1 1]).run Tryz.prog W = .ok (goInt ((1 : Nat) : Int)) (W.setCells g (i * 2) (Blk.cells y)) := fun W hWc hWf ty dc => by
    have hmin : Nat.min 1 (n + 1 - i) = 1 := by simp only [Nat.min_def]; split <;> omega
    have := run_copy_sz (P := Tryz.prog) W 28 28 ty 46 2 g (i * 2) (n + 1 - i) dc ⟨vb, 0, none⟩ 1 1 (Blk.cells y) Tryz.underlying28 hsz (by rw [hmin]; rfl)
      (fun j v hj => by
        rw [add_lit, hWc, hW1, World.cell?_setCells_out g _ _ _ _ (fun h _ => absurd h hvg), Nat.zero_add]
        exact hv j v hj)
      (fun j hj => by rw [hWc]; exact hc1 _ (by have : j < 2 := hj; omega)) (fun j hj => by rw [hWf, hW1, World.frozen?_setCells]; exact hfz _) (by simp [Blk.cells, Value.oneCell'])
    rwa [hmin] at this
  have hfin : InsOut w base (insd xs i y) (.returned (.slice (some ⟨g, 0, none⟩) (n + 1) c)) (W1.setCells g (i * 2) (Blk.cells y)) := by
    have hlen : (insd xs i y).length = n + 1 := by simp [insd, ← hn]; omega
    refine ⟨_, c, by rw [hlen], by rw [hlen]; exact hroom, hcm, fun _ => ⟨g, 0, rfl, hbg, ?_, fun j u hu => ?_⟩, ?_⟩
    · have hg : g < w.heap.size := (hown.lt g rfl).2
      rw [hW1]
      have := (below_setCells g (Blk.cells y) (i * 2) _ (below_setCells g ((blks xs).drop (i * 2)) ((i + 1) * 2) _ (Below.drew (Below.refl base w)) hbg) hbg).size
      omega
    · rw [Nat.zero_add]
      rw [insd, blks_append, blks_append, ← blks_take, ← blks_drop] at hu
      refine spliced (w := w.drew) (g := g) (p := i * 2) (m := 2) (by rw [List.length_take, hl]; omega) rfl (fun j v hj => hcs j v ?_) (fun j hj => hcells j (by rw [hdl] at hj; omega)) (.inl ?_) j u hu
      · rw [List.getElem?_take] at hj
        split at hj
        · exact hj
        · cases hj
      · rw [hW1, show i * 2 + 2 = (i + 1) * 2 by omega]; rfl
    · rw [hW1]
      exact below_setCells g _ _ _ (below_setCells g _ _ _ (Below.drew (Below.refl base w)) hbg) hbg
  rw [← hW1] at hcp1
  have hsl1 : ∀ W, (Instr.slice 28 (.slice (some ⟨g, 0, none⟩) n c) (some (.int .i64 (i : Int))) none none).run Tryz.prog W = .ok (.slice (shiftA (some ⟨g, 0, none⟩) c i 2) (n - i) (c - i)) W := fun W => run_slice_from (P := Tryz.prog) W 28 46 i0 2 Tryz.underlying28 hi0 hz1 _ n c i _ rfl (by omega)
  have hsl2 : ∀ W, (Instr.slice 28 (.slice (some ⟨g, 0, none⟩) (n + 1) c) (some (.int .i64 (i : Int))) none none).run Tryz.prog W = .ok (.slice (some ⟨g, i * 2, none⟩) (n + 1 - i) (c - i)) W := fun W => by
    have := run_slice_from (P := Tryz.prog) W 28 46 i0 2 Tryz.underlying28 hi0 hz1 (some ⟨g, 0, none⟩) (n + 1) c i _ rfl (by omega)
    rw [shiftA, if_neg (by omega)] at this
    simpa [add_lit] using this
  have hsl3 : ∀ W, (Instr.slice 28 (.slice (some ⟨g, 0, none⟩) (n + 1) c) (some (.int .i64 ((i : Int) + 1))) none none).run Tryz.prog W = .ok (.slice (some ⟨g, (i + 1) * 2, none⟩) (n + 1 - (i + 1)) (c - (i + 1))) W := fun W => by
    by_cases hce : c = i + 1
    · omega
    · have := run_slice_from (P := Tryz.prog) W 28 46 i0 2 Tryz.underlying28 hi0 hz1 (some ⟨g, 0, none⟩) (n + 1) c (i + 1) ((i : Int) + 1) (by omega) (by omega)
      rw [shiftA, if_neg hce] at this
      simpa [add_lit] using this
  have hz2' : ¬ ((i : Int) = (n : Int)) := by omega
  have hz3 : ¬ ((c : Int) < (n : Int) + 1) := by omega
  have hw1 : IntKind.i64.wrap ((i : Int) + 1) = (i : Int) + 1 := by rw [IntKind.wrap_i64]; omega
  have hw2 : IntKind.i64.wrap ((n : Int) + 1) = (n : Int) + 1 := by rw [IntKind.wrap_i64]; omega
  have htn : ((n : Int) + 1).toNat = n + 1 := by omega
  have mixed : Tryz.prog.follows .mixedOrders = true := by kernel_rfl
  have HF := Lib.hid hfin
  have HC1 := Lib.hid hcp1
  have HC2 := Lib.hid hcp2
  have HW1 := Lib.hid hW1
  clear hfin hcp1 hcp2 hW1 hc1 hcs hfz hcells hv hsa hfa hfe hsb hl hdl hown hkB hsz hn
  go_enter Tryz.func75, Tryz.ntmps75
  go_wp2_with (simp only [hov])
  refine rgnE (S := fun w' => w' = w.drew) (by kernel_rfl) ?_ (fun hHeld => ?_)
  case refine_1 => rfl
  refine takeE 0 (v := ?_) rfl (by kernel_rfl) (by kernel_rfl) (by kernel_rfl) (by kernel_rfl) (fun _ _ _ h => h) (by kernel_rfl) ?_ (by assumption) ?_; rotate_left; (focus (intro w hSw; (try dsimp only at hSw); (try go_split_ands); go_simp <;> with_reducible rfl)); (try simp only [Act.put, List.setIfInBounds_toArray, List.set_cons_zero, List.set_cons_succ])
  refine takeE 1 (v := ?_) rfl (by kernel_rfl) (by kernel_rfl) (by kernel_rfl) (by kernel_rfl) (fun _ _ _ h => h) (by kernel_rfl) ?_ (by assumption) ?_; rotate_left; (focus (intro w hSw; (try dsimp only at hSw); (try go_split_ands); go_simp <;> with_reducible rfl)); (try simp only [Act.put, List.setIfInBounds_toArray, List.set_cons_zero, List.set_cons_succ])
  refine takeE 2 (v := ?_) rfl (by kernel_rfl) (by kernel_rfl) (by kernel_rfl) (by kernel_rfl) (fun _ _ _ h => h) (by kernel_rfl) ?_ (by assumption) ?_; rotate_left; (focus (intro w hSw; (try dsimp only at hSw); (try go_split_ands); go_simp <;> with_reducible rfl)); (try simp only [Act.put, List.setIfInBounds_toArray, List.set_cons_zero, List.set_cons_succ])
  refine takeE 3 (v := ?_) rfl (by kernel_rfl) (by kernel_rfl) (by kernel_rfl) (by kernel_rfl) (fun _ _ _ h => h) (by kernel_rfl) ?_ (by assumption) ?_; rotate_left; (focus (intro w hSw; (try dsimp only at hSw); (try go_split_ands); go_simp <;> with_reducible rfl)); (try simp only [Act.put, List.setIfInBounds_toArray, List.set_cons_zero, List.set_cons_succ])
  refine takeE 4 (v := ?_) rfl (by kernel_rfl) (by kernel_rfl) (by kernel_rfl) (by kernel_rfl) (fun _ _ _ h => h) (by kernel_rfl) ?_ (by assumption) ?_; rotate_left; (focus (intro w hSw; (try dsimp only at hSw); (try go_split_ands); go_simp <;> with_reducible rfl)); (try simp only [Act.put, List.setIfInBounds_toArray, List.set_cons_zero, List.set_cons_succ])
  refine takeE 5 (v := ?_) rfl (by kernel_rfl) (by kernel_rfl) (by kernel_rfl) (by kernel_rfl) (fun _ _ _ h => h) (by kernel_rfl) ?_ (by assumption) ?_; rotate_left; (focus (intro w hSw; (try dsimp only at hSw); (try go_split_ands); go_simp <;> with_reducible rfl)); (try simp only [Act.put, List.setIfInBounds_toArray, List.set_cons_zero, List.set_cons_succ])
  refine takeE 6 (v := ?_) rfl (by kernel_rfl) (by kernel_rfl) (by kernel_rfl) (by kernel_rfl) (fun _ _ _ h => h) (by kernel_rfl) ?_ (by assumption) ?_; rotate_left; (focus (intro w hSw; (try dsimp only at hSw); (try go_split_ands); go_simp <;> with_reducible rfl)); (try simp only [Act.put, List.setIfInBounds_toArray, List.set_cons_zero, List.set_cons_succ])
  refine takeE 7 (v := ?_) rfl (by kernel_rfl) (by kernel_rfl) (by kernel_rfl) (by kernel_rfl) (fun _ _ _ h => h) (by kernel_rfl) ?_ (by assumption) ?_; rotate_left; (focus (intro w hSw; (try dsimp only at hSw); (try go_split_ands); go_simp <;> with_reducible rfl)); (try simp only [Act.put, List.setIfInBounds_toArray, List.set_cons_zero, List.set_cons_succ])
  refine lastE 8 rfl (by kernel_rfl) (by kernel_rfl) (by kernel_rfl) (by kernel_rfl) (fun K hK => ?_)
  refine wp_copy_runJ _ (.tmp 73) (.tmp 76) 28 28 rfl (.slice (some ⟨g, (i + 1) * 2, none⟩) (n - i) (c - (i + 1))) (.slice (some ⟨g, i * 2, none⟩) (n + 1 - i) (c - i)) rfl rfl (HC1.out _ _ _) ?_
  refine hK.out _ _ ?_; clear hK K; (try simp only [Act.put, List.setIfInBounds_toArray, List.set_cons_zero, List.set_cons_succ])
  go_wp2_with (refine wpList_copy_runJ _ rfl (.tmp 80) (.tmp 81) 28 28 rfl (.slice (some ⟨g, i * 2, none⟩) (n + 1 - i) (c - i)) (.slice (some ⟨vb, 0, none⟩) 1 1) rfl rfl (HC2.out _ (fun _ => rfl) (fun _ => rfl) _ _) ?_)
  go_ret
  exact HF.out

set_option maxRecDepth 100000 in
set_option maxHeartbeats 8000000 in
/-- without room -/
theorem ins_grow (w : World) (base g : Nat) (n c i : Nat) (xs : List Blk) (y : Blk) (hn : n = xs.length) (hN : n ≤ 100000000000) (hi : i < n) (hroom : c < n + 1) (hown : w.ownsRow base 46 2 (.slice (some ⟨g, 0, none⟩) n c) n (blks xs)) (hb : base ≤ w.heap.size)
    (vb : Nat) (hvw : vb < w.heap.size) (hv : ∀ j u, (Blk.cells y)[j]? = some u → w.cell? ⟨vb, j, none⟩ = some u) :
    Calls Tryz.prog 75 #[.slice (some ⟨g, 0, none⟩) n c, .int .i64 i, .slice (some ⟨vb, 0, none⟩) 1 1] w (InsOut w base (insd xs i y)) := by
  obtain ⟨i0, hi0, hz0, hz1, hz2⟩ := info_parts infoB
  obtain ⟨hbg, hnc, hcm, _, _, _, hcs⟩ := sliceD hown
  have hgw : g < w.heap.size := (hown.lt g rfl).2
  obtain rfl : c = n := by omega
  simp only [maxLen] at hcm
  have hsz : (Tryz.prog.info? 46).map (·.size) = some 2 := by rw [hi0]; simp [hz1]
  have hl : (blks xs).length = c * 2 := by rw [blks_length, hn]
  have hdl : ((blks xs).drop (i * 2)).length = (c - i) * 2 := by rw [List.length_drop, hl]; omega
  have htl : ((blks xs).take (i * 2)).length = i * 2 := by rw [List.length_take, hl]; omega
  have hold : (Builtin.firstCells i0.size i (.slice (some ⟨g, 0, none⟩) i c)).run Tryz.prog w.drew = .ok ((blks xs).take (i * 2)).toArray w.drew := by
    rw [hz1]
    exact run_firstCells_some w.drew 2 i ⟨g, 0, none⟩ i c ((blks xs).take (i * 2)) htl (fun j v hj => by
      rw [add_lit, Nat.zero_add]
      rw [List.getElem?_take] at hj
      split at hj
      · exact hcs j v hj
      · cases hj)
  have hik : i + (c + 1 - i) = c + 1 := by omega
  obtain ⟨z, hzz, hzc⟩ : ∃ z, i0.zero = some z ∧ z.cells.size = 2 := ⟨_, hz0, rfl⟩
  have hbig : (c + 1) * i0.bytes ≤ 140737488355328 := by rw [hz2]; omega
  have hrz : ∀ ty, (Builtin.append_ #[28, 3] ty #[.slice (some ⟨g, 0, none⟩) i c, .int .i64 ((c : Int) + 1 - (i : Int))]).run Tryz.prog w =
      .ok (.slice (some ⟨w.heap.size, 0, none⟩) (c + 1) (grownCap w (c + 1) c 46)) (w.drew.alloc (.cells (((blks xs).take (i * 2)).toArray ++ Builtin.zeroCells z.cells (c + 1 - i) ++ Builtin.zeroCells z.cells (grownCap w (c + 1) c 46 - (c + 1))) 46)) := fun ty => by
    have h := Lib.run_append_grow_zeros (P := Tryz.prog) w 28 3 ty 46 i0 z .i64 .i64 Tryz.underlying28 Tryz.underlying3 hi0 hzz (some ⟨g, 0, none⟩) i c ((blks xs).take (i * 2)) hold (c + 1 - i) (by omega) (by rw [hz1]; omega) (by omega) (by omega) (by rw [hz2]; omega) (by rw [hik]; exact growslice_fits hroom hbig)
    rw [hik] at h
    rw [show (c : Int) + 1 - (i : Int) = ((c + 1 - i : Nat) : Int) by omega]
    exact h
  have hG1 : c + 1 ≤ grownCap w (c + 1) c 46 := grownCap_ge w _ _ _
  have hG2 : grownCap w (c + 1) c 46 ≤ maxLen := grownCap_le_maxLen w (c + 1) c 46 (by simp only [maxLen]; omega)
  simp only [maxLen] at hG2
  generalize grownCap w (c + 1) c 46 = G at *
  obtain ⟨ROW, hROW⟩ : ∃ ROW : Array Value, ROW = ((blks xs).take (i * 2)).toArray ++ Builtin.zeroCells z.cells (c + 1 - i) ++ Builtin.zeroCells z.cells (G - (c + 1)) := ⟨_, rfl⟩
  rw [← hROW] at hrz
  have hRl : (c + 1) * 2 ≤ ROW.size := by
    rw [hROW]
    simp only [Builtin.zeroCells, hzc, Array.size_append, List.size_toArray, htl, Array.size_map, Array.size_range]
    omega
  have hRt : ∀ j u, ((blks xs).take (i * 2))[j]? = some u → ROW[j]? = some u := fun j u hu => by
    have hj : j < i * 2 := by rw [← htl]; exact (List.getElem?_eq_some_iff.1 hu).1
    rw [hROW, Array.getElem?_append_left (by simp only [Array.size_append, List.size_toArray, htl]; omega), Array.getElem?_append_left (by simpa [htl] using hj)]
    simpa using hu
  obtain ⟨W1, hW1⟩ : ∃ W1, W1 = w.drew.alloc (.cells ROW 46) := ⟨_, rfl⟩
  rw [← hW1] at hrz
  have e1 : Ext w W1 := by rw [hW1]; exact ((Ext.refl w).drew).alloc _
  have hz1' : W1.heap.size = w.heap.size + 1 := by rw [hW1]; simp
  have hN1 : ∀ j u, ROW[j]? = some u → W1.cell? ⟨w.heap.size, j, none⟩ = some u := fun j u hu => by rw [hW1]; exact cell_new w.drew ROW _ j hu
  have hNf : ∀ j, W1.frozen? ⟨w.heap.size, j, none⟩ = false := fun j => by rw [hW1]; exact World.frozen?_alloc_at (w := w.drew) ROW _ w.heap.size j rfl
  have hNs : ∀ j, j < (c + 1) * 2 → (W1.cell? ⟨w.heap.size, j, none⟩).isSome = true := fun j hj => by rw [hN1 j _ (Array.getElem?_eq_getElem (by omega))]; rfl
  have hcpA : ∀ ty dc, (Builtin.copy_ #[28, 28] ty #[.slice (some ⟨w.heap.size, i * 2, none⟩) (c + 1 - i) dc, .slice (some ⟨vb, 0, none⟩) 1 1]).run Tryz.prog W1 = .ok (goInt ((1 : Nat) : Int)) (W1.setCells w.heap.size (i * 2) (Blk.cells y)) := fun ty dc => by
    have hmin : Nat.min 1 (c + 1 - i) = 1 := by simp only [Nat.min_def]; split <;> omega
    have := run_copy_sz (P := Tryz.prog) W1 28 28 ty 46 2 w.heap.size (i * 2) (c + 1 - i) dc ⟨vb, 0, none⟩ 1 1 (Blk.cells y) Tryz.underlying28 hsz (by rw [hmin]; rfl)
      (fun j v hj => by rw [add_lit, Nat.zero_add, Below.cell e1 hvw]; exact hv j v hj)
      (fun j hj => hNs _ (by have : j < 2 := hj; omega)) (fun j hj => hNf _) (by simp [Blk.cells, Value.oneCell'])
    rwa [hmin] at this
  obtain ⟨W2, hW2⟩ : ∃ W2, W2 = W1.setCells w.heap.size (i * 2) (Blk.cells y) := ⟨_, rfl⟩
  have hgN : g ≠ w.heap.size := by omega
  have hNs2 : ∀ k, k < (c + 1) * 2 → (W2.cell? ⟨w.heap.size, k, none⟩).isSome = true := fun k hk => by
    rw [hW2]
    exact isSome_sets w.heap.size (Blk.cells y) (i * 2) W1 (fun j hj => hNs (i * 2 + j) (by have : j < 2 := hj; omega)) k (hNs k hk)
  have hcpB : ∀ ty dc sc, (Builtin.copy_ #[28, 28] ty #[.slice (some ⟨w.heap.size, (i + 1) * 2, none⟩) (c - i) dc, .slice (some ⟨g, i * 2, none⟩) (c - i) sc]).run Tryz.prog W2.drew = .ok (goInt ((c - i : Nat) : Int)) (W2.drew.setCells w.heap.size ((i + 1) * 2) ((blks xs).drop (i * 2))) := fun ty dc sc => by
    have hmin : Nat.min (c - i) (c - i) = c - i := by simp
    have := run_copy_sz (P := Tryz.prog) W2.drew 28 28 ty 46 2 w.heap.size ((i + 1) * 2) (c - i) dc ⟨g, i * 2, none⟩ (c - i) sc ((blks xs).drop (i * 2)) Tryz.underlying28 hsz (by rw [hdl, hmin])
      (fun j v hj => by
        show W2.cell? _ = _
        rw [add_lit, hW2, World.cell?_setCells_out _ _ _ _ _ (fun h _ => absurd h hgN), Below.cell e1 hgw]
        exact hcs _ v (by rwa [List.getElem?_drop] at hj))
      (fun j hj => hNs2 _ (by rw [hdl] at hj; omega)) (fun j hj => by show W2.frozen? _ = _; rw [hW2, World.frozen?_setCells]; exact hNf _) (fun v hv => blks_one xs v (List.mem_of_mem_drop hv))
    rwa [hmin] at this
  have hfin : InsOut w base (insd xs i y) (.returned (.slice (some ⟨w.heap.size, 0, none⟩) (c + 1) G)) (W2.drew.setCells w.heap.size ((i + 1) * 2) ((blks xs).drop (i * 2))) := by
    have hlen : (insd xs i y).length = c + 1 := by simp [insd, ← hn]; omega
    have hbl : Below base w (W2.drew.setCells w.heap.size ((i + 1) * 2) ((blks xs).drop (i * 2))) := by
      rw [hW2]
      exact below_setCells _ _ _ _ (below_setCells _ _ _ _ (Below.mono e1 hb) hb).drew hb
    refine ⟨_, G, by rw [hlen], by rw [hlen]; exact hG1, hG2, fun _ => ⟨w.heap.size, 0, rfl, hb, ?_, fun j u hu => ?_⟩, hbl⟩
    · rw [hW2]
      have h1 := (below_setCells w.heap.size ((blks xs).drop (i * 2)) ((i + 1) * 2) _ (below_setCells w.heap.size (Blk.cells y) (i * 2) _ (Below.refl w.heap.size W1) (Nat.le_refl _)).drew (Nat.le_refl _)).size
      omega
    · rw [Nat.zero_add]
      rw [insd, blks_append, blks_append, ← blks_take, ← blks_drop] at hu
      refine spliced (w := W1.drew) (w' := W2.drew.setCells w.heap.size ((i + 1) * 2) ((blks xs).drop (i * 2))) (g := w.heap.size) (p := i * 2) (m := 2) htl rfl (fun j v hj => hN1 j v (hRt j v hj)) (fun j hj => hNs j (by rw [hdl] at hj; omega)) (.inr ?_) j u hu
      rw [hW2, show i * 2 + 2 = (i + 1) * 2 by omega]
      rfl
  rw [← hW2] at hcpA
  have hsl1 : ∀ W, (Instr.slice 28 (.slice (some ⟨g, 0, none⟩) c c) (some (.int .i64 (i : Int))) none none).run Tryz.prog W = .ok (.slice (some ⟨g, i * 2, none⟩) (c - i) (c - i)) W := fun W => by
    have := run_slice_from (P := Tryz.prog) W 28 46 i0 2 Tryz.underlying28 hi0 hz1 (some ⟨g, 0, none⟩) c c i _ rfl (by omega)
    rw [shiftA, if_neg (by omega)] at this
    simpa [add_lit] using this
  have hsl2 : ∀ W, (Instr.slice 28 (.slice (some ⟨w.heap.size, 0, none⟩) (c + 1) G) (some (.int .i64 (i : Int))) none none).run Tryz.prog W = .ok (.slice (some ⟨w.heap.size, i * 2, none⟩) (c + 1 - i) (G - i)) W := fun W => by
    have := run_slice_from (P := Tryz.prog) W 28 46 i0 2 Tryz.underlying28 hi0 hz1 (some ⟨w.heap.size, 0, none⟩) (c + 1) G i _ rfl (by omega)
    rw [shiftA, if_neg (by omega)] at this
    simpa [add_lit] using this
  have hsl3 : ∀ W, (Instr.slice 28 (.slice (some ⟨w.heap.size, 0, none⟩) (c + 1) G) (some (.int .i64 ((i : Int) + 1))) none none).run Tryz.prog W = .ok (.slice (some ⟨w.heap.size, (i + 1) * 2, none⟩) (c - i) (G - (i + 1))) W := fun W => by
    have := run_slice_from (P := Tryz.prog) W 28 46 i0 2 Tryz.underlying28 hi0 hz1 (some ⟨w.heap.size, 0, none⟩) (c + 1) G (i + 1) ((i : Int) + 1) (by omega) (by omega)
    rw [shiftA, if_neg (by omega)] at this
    simpa [add_lit] using this
  have hz2' : ¬ ((i : Int) = (c : Int)) := by omega
  have hw1 : IntKind.i64.wrap ((i : Int) + 1) = (i : Int) + 1 := by rw [IntKind.wrap_i64]; omega
  have hw2 : IntKind.i64.wrap ((c : Int) + 1) = (c : Int) + 1 := by rw [IntKind.wrap_i64]; omega
  have hw3 : IntKind.i64.wrap ((c : Int) + 1 - (i : Int)) = (c : Int) + 1 - (i : Int) := by rw [IntKind.wrap_i64]; omega
  have mixed : Tryz.prog.follows .mixedOrders = true := by kernel_rfl
  have HF := Lib.hid hfin
  have HRZ := Lib.hid hrz
  have HA := Lib.hid hcpA
  have HB := Lib.hid hcpB
  clear hfin hcpA hcpB hrz hNs2 hNs hNf hN1 hW2 hW1 hRt hRl hROW hold hcs hv hl hdl htl hown hsz hn hz1' e1 hzc hzz hbig hik
  go_enter Tryz.func75, Tryz.ntmps75
  go_wp2_with (first | (at_builtin; refine Lib.wpList_append_run _ rfl (.tmp 34) (.tmp 39) _ _ rfl _ _ rfl rfl _ _ (HRZ.out _) ?_) | (refine wpList_copy_runJ _ rfl (.tmp 43) (.tmp 44) 28 28 rfl (.slice (some ⟨w.heap.size, i * 2, none⟩) (c + 1 - i) (G - i)) (.slice (some ⟨vb, 0, none⟩) 1 1) rfl rfl (HA.out _ _) ?_))
  refine rgnE (S := fun w' => w' = W2.drew) (by kernel_rfl) ?_ (fun hHeld => ?_)
  case refine_1 => rfl
  refine takeE 0 (v := ?_) rfl (by kernel_rfl) (by kernel_rfl) (by kernel_rfl) (by kernel_rfl) (fun _ _ _ h => h) (by kernel_rfl) ?_ (by assumption) ?_; rotate_left; (focus (intro w hSw; (try dsimp only at hSw); (try go_split_ands); go_simp <;> with_reducible rfl)); (try simp only [Act.put, List.setIfInBounds_toArray, List.set_cons_zero, List.set_cons_succ])
  refine takeE 1 (v := ?_) rfl (by kernel_rfl) (by kernel_rfl) (by kernel_rfl) (by kernel_rfl) (fun _ _ _ h => h) (by kernel_rfl) ?_ (by assumption) ?_; rotate_left; (focus (intro w hSw; (try dsimp only at hSw); (try go_split_ands); go_simp <;> with_reducible rfl)); (try simp only [Act.put, List.setIfInBounds_toArray, List.set_cons_zero, List.set_cons_succ])
  refine takeE 2 (v := ?_) rfl (by kernel_rfl) (by kernel_rfl) (by kernel_rfl) (by kernel_rfl) (fun _ _ _ h => h) (by kernel_rfl) ?_ (by assumption) ?_; rotate_left; (focus (intro w hSw; (try dsimp only at hSw); (try go_split_ands); go_simp <;> with_reducible rfl)); (try simp only [Act.put, List.setIfInBounds_toArray, List.set_cons_zero, List.set_cons_succ])
  refine takeE 3 (v := ?_) rfl (by kernel_rfl) (by kernel_rfl) (by kernel_rfl) (by kernel_rfl) (fun _ _ _ h => h) (by kernel_rfl) ?_ (by assumption) ?_; rotate_left; (focus (intro w hSw; (try dsimp only at hSw); (try go_split_ands); go_simp <;> with_reducible rfl)); (try simp only [Act.put, List.setIfInBounds_toArray, List.set_cons_zero, List.set_cons_succ])
  refine takeE 4 (v := ?_) rfl (by kernel_rfl) (by kernel_rfl) (by kernel_rfl) (by kernel_rfl) (fun _ _ _ h => h) (by kernel_rfl) ?_ (by assumption) ?_; rotate_left; (focus (intro w hSw; (try dsimp only at hSw); (try go_split_ands); go_simp <;> with_reducible rfl)); (try simp only [Act.put, List.setIfInBounds_toArray, List.set_cons_zero, List.set_cons_succ])
  refine takeE 5 (v := ?_) rfl (by kernel_rfl) (by kernel_rfl) (by kernel_rfl) (by kernel_rfl) (fun _ _ _ h => h) (by kernel_rfl) ?_ (by assumption) ?_; rotate_left; (focus (intro w hSw; (try dsimp only at hSw); (try go_split_ands); go_simp <;> with_reducible rfl)); (try simp only [Act.put, List.setIfInBounds_toArray, List.set_cons_zero, List.set_cons_succ])
  refine takeE 6 (v := ?_) rfl (by kernel_rfl) (by kernel_rfl) (by kernel_rfl) (by kernel_rfl) (fun _ _ _ h => h) (by kernel_rfl) ?_ (by assumption) ?_; rotate_left; (focus (intro w hSw; (try dsimp only at hSw); (try go_split_ands); go_simp <;> with_reducible rfl)); (try simp only [Act.put, List.setIfInBounds_toArray, List.set_cons_zero, List.set_cons_succ])
  refine takeE 7 (v := ?_) rfl (by kernel_rfl) (by kernel_rfl) (by kernel_rfl) (by kernel_rfl) (fun _ _ _ h => h) (by kernel_rfl) ?_ (by assumption) ?_; rotate_left; (focus (intro w hSw; (try dsimp only at hSw); (try go_split_ands); go_simp <;> with_reducible rfl)); (try simp only [Act.put, List.setIfInBounds_toArray, List.set_cons_zero, List.set_cons_succ])
  refine lastE 8 rfl (by kernel_rfl) (by kernel_rfl) (by kernel_rfl) (by kernel_rfl) (fun K hK => ?_)
  refine wp_copy_runJ _ (.tmp 50) (.tmp 53) 28 28 rfl (.slice (some ⟨w.heap.size, (i + 1) * 2, none⟩) (c - i) (G - (i + 1))) (.slice (some ⟨g, i * 2, none⟩) (c - i) (c - i)) rfl rfl (HB.out _ _ _) ?_
  refine hK.out _ _ ?_; clear hK K; (try simp only [Act.put, List.setIfInBounds_toArray, List.set_cons_zero, List.set_cons_succ])
  go_wp2_with fail
  go_ret
  exact HF.out
end Go.Proofs.YtmecjjmlccdppaaGreatDoor
/- blocks.by; slices.BinarySearchFunc over blocks that rise. -/
namespace Go.Proofs.YtmecjjmlccdppaaGreatDoor
open Go.RowKit
set_option linter.unusedVariables false
set_option linter.unusedSimpArgs false

set_option maxRecDepth 100000 in
set_option maxHeartbeats 1000000 in
theorem by_any (xi : Int) (xd : ByteArray) (t : Int) (w : World) : Calls Tryz.prog 74 #[.agg #[.int .i64 xi, .string xd], .int .i64 t] w fun e w' => e = .returned (.int .i64 (byO xi t)) ∧ Ext w w' := by
  by_cases h1 : xi < t
  · have hv := Lib.hid (show byO xi t = -1 by rw [byO, if_pos h1])
    go_enter Tryz.func74, Tryz.ntmps74
    go_wp2
    go_ret
    exact ⟨by rw [hv.out]; rfl, by (repeat (first | exact Below.refl _ _ | exact Ext.refl _ | assumption | refine Below.drew ?_ | refine below_drewN ?_ _ | refine below_alloc ?_ (by first | exact Nat.le_refl _ | assumption | (simp; done) | omega | (simp; omega)) _ | refine below_ext ?_ (by assumption) (by first | exact Nat.le_refl _ | assumption | (simp; done) | omega | (simp; omega)) | refine Ext.drew ?_ | refine Ext.drewN ?_ _ | refine Ext.alloc ?_ _ | refine Ext.setCell ?_ (by first | assumption | (simp; done) | (simp; omega)) _ | refine Below.setCell ?_ (by first | assumption | (simp; done) | (simp; omega)) _ | refine Ext.trans ?_ (by assumption)))⟩
  · by_cases h2 : t < xi
    · have hv := Lib.hid (show byO xi t = 1 by rw [byO, if_neg h1, if_pos h2])
      go_enter Tryz.func74, Tryz.ntmps74
      go_wp2
      go_ret
      exact ⟨by rw [hv.out]; rfl, by (repeat (first | exact Below.refl _ _ | exact Ext.refl _ | assumption | refine Below.drew ?_ | refine below_drewN ?_ _ | refine below_alloc ?_ (by first | exact Nat.le_refl _ | assumption | (simp; done) | omega | (simp; omega)) _ | refine below_ext ?_ (by assumption) (by first | exact Nat.le_refl _ | assumption | (simp; done) | omega | (simp; omega)) | refine Ext.drew ?_ | refine Ext.drewN ?_ _ | refine Ext.alloc ?_ _ | refine Ext.setCell ?_ (by first | assumption | (simp; done) | (simp; omega)) _ | refine Below.setCell ?_ (by first | assumption | (simp; done) | (simp; omega)) _ | refine Ext.trans ?_ (by assumption)))⟩
    · have hv := Lib.hid (show byO xi t = 0 by rw [byO, if_neg h1, if_neg h2])
      go_enter Tryz.func74, Tryz.ntmps74
      go_wp2
      go_ret
      exact ⟨by rw [hv.out]; rfl, by (repeat (first | exact Below.refl _ _ | exact Ext.refl _ | assumption | refine Below.drew ?_ | refine below_drewN ?_ _ | refine below_alloc ?_ (by first | exact Nat.le_refl _ | assumption | (simp; done) | omega | (simp; omega)) _ | refine below_ext ?_ (by assumption) (by first | exact Nat.le_refl _ | assumption | (simp; done) | omega | (simp; omega)) | refine Ext.drew ?_ | refine Ext.drewN ?_ _ | refine Ext.alloc ?_ _ | refine Ext.setCell ?_ (by first | assumption | (simp; done) | (simp; omega)) _ | refine Below.setCell ?_ (by first | assumption | (simp; done) | (simp; omega)) _ | refine Ext.trans ?_ (by assumption)))⟩
/-- does a block of index t stand at p? -/
def isAt (xs : List Blk) (p : Nat) (t : Int) : Bool := match xs[p]? with
  | some x => decide (x.index = t)
  | none => false
/-- where the index t stands, or would stand -/
def BsOut (w : World) (xs : List Blk) (t : Int) (e : Ending) (w' : World) : Prop :=
  ∃ p : Nat, e = .returned (.tuple #[.int .i64 p, .bool (isAt xs p t)]) ∧ p ≤ xs.length ∧ (∀ k (h : k < xs.length), k < p → xs[k].index < t) ∧ (∀ k (h : k < xs.length), p ≤ k → t ≤ xs[k].index) ∧ Ext w w'
/-- the indices rise -/
def Rises (xs : List Blk) : Prop := ∀ a b (ha : a < b) (hb : b < xs.length), xs[a].index < xs[b].index

set_option maxRecDepth 100000 in
set_option maxHeartbeats 2000000 in
theorem bs_any (w : World) (A : Option Addr) (n c : Nat) (xs : List Blk) (hn : n = xs.length) (hN : n ≤ 100000000000) (hr : Rd w 0 w.heap.size A (blks xs)) (hrs : Rises xs) (t : Int) :
    Calls Tryz.prog 73 #[.slice A n c, .int .i64 t, .func (.func 74) #[] #[]] w (BsOut w xs t) := by
  have Hn := Lib.hid hn
  have HR := Lib.hid hr
  have HRs := Lib.hid hrs
  clear hn hr hrs
  go_enter Tryz.func73, Tryz.ntmps73
  go_wp2_with fail
  go_loopw [9, 10] (fun a b wr => ∃ i j : Nat, i ≤ j ∧ j ≤ n ∧ a = .int .i64 i ∧ b = .int .i64 j ∧ Hid (∀ k (h : k < xs.length), k < i → xs[k].index < t) ∧ Hid (∀ k (h : k < xs.length), j ≤ k → t ≤ xs[k].index) ∧ Ext w wr) (fun a b _ => (intOf b).toNat - (intOf a).toNat)
  case atStart => exact ⟨0, n, Nat.zero_le _, Nat.le_refl _, rfl, rfl, fun k h hk => absurd hk (Nat.not_lt_zero _), fun k h hk => absurd h (by rw [← Hn.out]; omega), Ext.refl _⟩
  case round =>
    obtain ⟨i, j, hij, hj, rfl, rfl, HL, HG, e1⟩ := hrel
    by_cases hlt : i < j
    · obtain ⟨m, hm⟩ : ∃ m, m = (i + j) / 2 := ⟨_, rfl⟩
      have m1 : i ≤ m := by omega
      have m2 : m < j := by omega
      have l1 : m < xs.length := by rw [← Hn.out]; omega
      obtain ⟨b1, o1, rfl, _, _, f0, f1⟩ := rd_blk (HR.out.ext e1 (Nat.le_refl _)) l1
      have HLt := Lib.hid (fun (hh : xs[m].index < t) k (h : k < xs.length) (hk : k < m + 1) => show xs[k].index < t from by
        rcases Nat.lt_or_ge k m with q | q
        · exact Int.lt_trans (HRs.out k m q l1) hh
        · obtain rfl : k = m := by omega
          exact hh)
      have HGe := Lib.hid (fun (hh : ¬ xs[m].index < t) k (h : k < xs.length) (hk : m ≤ k) => show t ≤ xs[k].index from by
        rcases Nat.lt_or_ge m k with q | q
        · have := HRs.out m k q h
          omega
        · obtain rfl : k = m := by omega
          omega)
      generalize xs[m] = x at *
      obtain ⟨xi, xd⟩ := x
      dsimp only at f0 f1
      have d1 : ((i : Int) + (j : Int)) / 2 = m := by omega
      have d2 : (i + j) / 2 = m := hm.symm
      clear hm
      go_wp2_with fail
      refine (by_any xi xd t _).mono ?_
      rintro e w2 ⟨rfl, e2⟩
      by_cases h1 : xi < t
      · have hb : byO xi t = -1 := by rw [byO, if_pos h1]
        have HL2 := Lib.hid (HLt.out (by omega))
        rw [hb]
        go_wp2_with fail
        go_roundw
        case rel => exact ⟨m + 1, j, by omega, hj, by go_num, rfl, HL2, HG, by (repeat (first | exact Below.refl _ _ | exact Ext.refl _ | assumption | refine Below.drew ?_ | refine below_drewN ?_ _ | refine below_alloc ?_ (by first | exact Nat.le_refl _ | assumption | (simp; done) | omega | (simp; omega)) _ | refine below_ext ?_ (by assumption) (by first | exact Nat.le_refl _ | assumption | (simp; done) | omega | (simp; omega)) | refine Ext.drew ?_ | refine Ext.drewN ?_ _ | refine Ext.alloc ?_ _ | refine Ext.setCell ?_ (by first | assumption | (simp; done) | (simp; omega)) _ | refine Below.setCell ?_ (by first | assumption | (simp; done) | (simp; omega)) _ | refine Ext.trans ?_ (by assumption)))⟩
        case measure => simp [intOf]; omega
      · have hb : ¬ byO xi t < 0 := by
          rw [byO, if_neg h1]
          split <;> omega
        have HG2 := Lib.hid (HGe.out (by omega))
        generalize byO xi t = z at *
        go_wp2_with fail
        go_roundw
        case rel => exact ⟨i, m, by omega, by omega, rfl, by go_num, HL, HG2, by (repeat (first | exact Below.refl _ _ | exact Ext.refl _ | assumption | refine Below.drew ?_ | refine below_drewN ?_ _ | refine below_alloc ?_ (by first | exact Nat.le_refl _ | assumption | (simp; done) | omega | (simp; omega)) _ | refine below_ext ?_ (by assumption) (by first | exact Nat.le_refl _ | assumption | (simp; done) | omega | (simp; omega)) | refine Ext.drew ?_ | refine Ext.drewN ?_ _ | refine Ext.alloc ?_ _ | refine Ext.setCell ?_ (by first | assumption | (simp; done) | (simp; omega)) _ | refine Below.setCell ?_ (by first | assumption | (simp; done) | (simp; omega)) _ | refine Ext.trans ?_ (by assumption)))⟩
        case measure => simp [intOf]; omega
    · obtain rfl : i = j := by omega
      by_cases hn2 : i < n
      · have l1 : i < xs.length := by rw [← Hn.out]; exact hn2
        obtain ⟨b1, o1, rfl, _, _, f0, f1⟩ := rd_blk (HR.out.ext e1 (Nat.le_refl _)) l1
        have HIs := Lib.hid (show isAt xs i t = decide (xs[i].index = t) by rw [isAt, List.getElem?_eq_getElem l1])
        generalize xs[i] = x at *
        obtain ⟨xi, xd⟩ := x
        dsimp only at f0 f1
        go_wp2_with fail
        refine (by_any xi xd t _).mono ?_
        rintro e w2 ⟨rfl, e2⟩
        by_cases h1 : xi = t
        · have hb : byO xi t = 0 := by rw [byO, if_neg (by omega), if_neg (by omega)]
          have HI2 := Lib.hid (show isAt xs i t = true by rw [HIs.out]; exact decide_eq_true h1)
          rw [hb]
          go_wp2_with fail
          go_ret2
          exact ⟨i, by rw [HI2.out]; rfl, by rw [← Hn.out]; exact hj, HL.out, HG.out, by (repeat (first | exact Below.refl _ _ | exact Ext.refl _ | assumption | refine Below.drew ?_ | refine below_drewN ?_ _ | refine below_alloc ?_ (by first | exact Nat.le_refl _ | assumption | (simp; done) | omega | (simp; omega)) _ | refine below_ext ?_ (by assumption) (by first | exact Nat.le_refl _ | assumption | (simp; done) | omega | (simp; omega)) | refine Ext.drew ?_ | refine Ext.drewN ?_ _ | refine Ext.alloc ?_ _ | refine Ext.setCell ?_ (by first | assumption | (simp; done) | (simp; omega)) _ | refine Below.setCell ?_ (by first | assumption | (simp; done) | (simp; omega)) _ | refine Ext.trans ?_ (by assumption)))⟩
        · have hb : byO xi t ≠ 0 := by
            rw [byO]
            split
            · decide
            · split
              · decide
              · omega
          have HI2 := Lib.hid (show isAt xs i t = false by rw [HIs.out]; exact decide_eq_false h1)
          have hb2 : (byO xi t == 0) = false := by simpa using hb
          generalize byO xi t = z at *
          go_wp2_with fail
          go_ret2
          exact ⟨i, by rw [HI2.out]; rfl, by rw [← Hn.out]; exact hj, HL.out, HG.out, by (repeat (first | exact Below.refl _ _ | exact Ext.refl _ | assumption | refine Below.drew ?_ | refine below_drewN ?_ _ | refine below_alloc ?_ (by first | exact Nat.le_refl _ | assumption | (simp; done) | omega | (simp; omega)) _ | refine below_ext ?_ (by assumption) (by first | exact Nat.le_refl _ | assumption | (simp; done) | omega | (simp; omega)) | refine Ext.drew ?_ | refine Ext.drewN ?_ _ | refine Ext.alloc ?_ _ | refine Ext.setCell ?_ (by first | assumption | (simp; done) | (simp; omega)) _ | refine Below.setCell ?_ (by first | assumption | (simp; done) | (simp; omega)) _ | refine Ext.trans ?_ (by assumption)))⟩
      · obtain rfl : i = n := by omega
        have HI2 := Lib.hid (show isAt xs i t = false by rw [isAt, List.getElem?_eq_none (by rw [← Hn.out]; exact Nat.le_refl _)])
        go_wp2_with fail
        go_ret2
        exact ⟨i, by rw [HI2.out]; rfl, by rw [← Hn.out]; exact Nat.le_refl _, HL.out, HG.out, e1⟩
end Go.Proofs.YtmecjjmlccdppaaGreatDoor
