/- The texts Tlw in one file. -/
import Derived.Test.YtckaneapjpiocaaGreatDoorM34
import Derived.Test.YtckaneapjpiocaaGreatDoorM35
import Derived.Test.YtckaneapjpiocaaGreatDoorM36
import Derived.Test.YtckaneapjpiocaaGreatDoorM39
import Derived.Test.YtckaneapjpiocaaGreatDoorM44
import Derived.Test.YtckaneapjpiocaaGreatDoorM2
namespace Go.Proofs.YtckaneapjpiocaaGreatDoor
open Go.RowKit Go.Maps Go.Sort Go.Shelf
set_option linter.unusedVariables false
set_option linter.unusedSimpArgs false
section
variable {α β : Type}
theorem map_at {f : α → β} {xs ys : List α} (h : xs.map f = ys.map f) (k : Nat) (h1 : k < xs.length) (h2 : k < ys.length) : f xs[k] = f ys[k] := by
  have := congrArg (fun l => l[k]?) h
  simpa [List.getElem?_map, List.getElem?_eq_getElem h1, List.getElem?_eq_getElem h2] using this
theorem map_len {f : α → β} {xs ys : List α} (h : xs.map f = ys.map f) : xs.length = ys.length := by
  have := congrArg List.length h
  simpa using this
theorem sl_xs {xs ys : List α} (h : slB xs = slB ys) : xs = ys := congrArg Sl.xs h
end
theorem snEq_bare {w w' : World} {lo hi lo' hi' : Nat} {x y : Sna} (hx : Sna.At w lo hi x) (hy : Sna.At w' lo' hi' y) (h : x.bare = y.bare) : snEq x y = true := by
  obtain ⟨n, g, b, t, o⟩ := x
  obtain ⟨n', g', b', t', o'⟩ := y
  simp only [Sna.bare, Sna.mk.injEq] at h
  obtain ⟨rfl, rfl, h1, h2, h3⟩ := h
  have e1 := sl_xs h1
  have e2 := sl_xs h2
  have e3 := sl_xs h3
  have l1 := hx.tags.len
  have l2 := hy.tags.len
  simp only [] at l1 l2 e1 e2 e3
  simp [snEq, e1, e2, e3, l1, l2]
theorem dsEq_bare {w w' : World} {lo hi lo' hi' : Nat} {x y : Dst} (hx : Dst.At w lo hi x) (hy : Dst.At w' lo' hi' y) (h : x.bare = y.bare) : dsEq x y = true := by
  obtain ⟨p, o, b, s, r⟩ := x
  obtain ⟨p', o', b', s', r'⟩ := y
  simp only [Dst.bare, Dst.mk.injEq] at h
  obtain ⟨rfl, rfl, h1, h2, h3⟩ := h
  have e1 := sl_xs h1
  have e2 := sl_xs h2
  have e3 := sl_xs h3
  have l1 := hx.snaps.len
  have l2 := hy.snaps.len
  have l3 := map_len e2
  simp only [] at l1 l2 l3 e1 e2 e3
  have hz : zipEq s.xs s'.xs = true := by
    refine zipEq_yes _ _ l3 fun k k1 k2 => ?_
    exact snEq_bare (hx.snaps.all _ (List.getElem_mem k1)) (hy.snaps.all _ (List.getElem_mem k2)) (map_at e2 k k1 k2)
  simp [dsEq, e1, e3, l1, l2, l3, hz]
theorem tnEq_bare {w w' : World} {lo hi lo' hi' : Nat} {x y : Tnt} (hx : Tnt.At w lo hi x) (hy : Tnt.At w' lo' hi' y) (h : x.bare = y.bare) : tnEq x y = true := by
  obtain ⟨n, q, nx, s, g, a, l⟩ := x
  obtain ⟨n', q', nx', s', g', a', l'⟩ := y
  simp only [Tnt.bare, Tnt.mk.injEq] at h
  obtain ⟨rfl, rfl, rfl, h1, h2, h3, h4⟩ := h
  have e1 := sl_xs h1
  have e2 := sl_xs h2
  have e3 := sl_xs h3
  have e4 := sl_xs h4
  have l1 := hx.sets.len
  have l2 := hy.sets.len
  have l3 := map_len e1
  have l4 := hx.stages.len
  have l5 := hy.stages.len
  have l6 := map_len e3
  simp only [] at l1 l2 l3 l4 l5 l6 e1 e2 e3 e4
  have hz : zip2 dsEq s.xs s'.xs = true := zip2_yes _ _ _ l3 fun k k1 k2 => dsEq_bare (hx.sets.all _ (List.getElem_mem k1)) (hy.sets.all _ (List.getElem_mem k2)) (map_at e1 k k1 k2)
  have hz2 : zip2 sameS a.xs a'.xs = true := zip2_yes _ _ _ l6 fun k k1 k2 => same_bare _ _ (map_at e3 k k1 k2)
  simp [tnEq, e2, e4, l1, l2, l3, l4, l5, l6, hz, hz2]
theorem okd_obk {t : Tnt} {os : List Ob} (h : os.map obk = obL t) : os.map okd = (objT t).map octD := by
  have := congrArg (List.map fun p : ByteArray × List UInt8 × Loc => (p.1, p.2.1)) h
  rw [obL, List.map_map, List.map_map] at this
  exact this
theorem stg_facts {w : World} {lo hi : Nat} {t : Tnt} (h : Tnt.At w lo hi t) : ∀ x ∈ t.stages.xs, x.beg.on = x.beg.own.length ∧ (sumR x.beg).wf ∧ x.su.wf := fun x hx => by
  have := h.stages.all x hx
  exact ⟨this.beg.own, this.begS, this.su⟩
theorem tback_read {w w0 w1 : World} {t : Tnt} (hM : MaxV w1) (h : Tnt.At w 0 w.heap.size t) (ht : tenB t = true) {A : Option Addr} {c : Nat} {os : List Ob} (ho : os.map obk = obL t) (H : Heap w0 (.row 56 3 (.slice A os.length c) os.length (os.flatMap Ob.cells) :: os.map datIt) w1) :
    Calls Tryz.prog 17 #[.string t.name, .slice A os.length c] w1 fun e w' => ∃ (u : Tnt) (S : Nat → Prop) (L : RdL), e = .returned (.tuple #[.agg u.cells.toArray, .int .i64 0]) ∧ u.bare = t.bare ∧ TntIn L u ∧ u.fit ∧ Heap w1 [It.bag S L] w' := by
  obtain ⟨p1, p2, p3⟩ := obs_at ht ho H
  have hk := okd_obk ho
  have hlen : os.length ≤ 37 := by
    have hl := congrArg List.length ho
    simp only [tenB, setsB, stsB, Bool.and_eq_true, decide_eq_true_eq] at ht
    rw [List.length_map, obL, objT] at hl
    simp only [List.length_map, List.length_cons, List.length_append] at hl
    have := ht.2.2.2.1.1
    have := ht.2.2.2.2.2.1.1
    omega
  have hky : ∀ x ∈ os, x.key.size ≤ 1048576 := fun x hx => by
    have h1 := List.mem_map_of_mem (f := okd) hx
    rw [hk] at h1
    obtain ⟨p, hp, he⟩ := List.mem_map.1 h1
    have := key_small t ht p hp
    have e2 : p.1 = x.key := congrArg Prod.fst he
    rw [← e2]; omega
  have hR := rTen_back t ht (stg_facts h)
  refine (tread_any w1 t.name ⟨A, os.length, c, os⟩ hM h.name p1 (by show os.length ≤ _; omega) (fun x hx => ⟨p2 x hx, hky x hx⟩)).mono fun e w' q => ?_
  have hn : nameB t.name = true := by
    simp only [tenB, Bool.and_eq_true] at ht
    exact ht.1
  rcases q with ⟨q, _⟩ | ⟨_, q, _⟩ | ⟨_, px, u, S, L, q1, q2, q3, q4, q5, q6⟩
  · rw [hn] at q; cases q
  · rw [hk, hR] at q; cases q
  · rw [hk, hR] at q1
    cases q1
    exact ⟨u, S, L, q2, q3, q4, q5, q6⟩
end Go.Proofs.YtckaneapjpiocaaGreatDoor
