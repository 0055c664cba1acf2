/- device.New. -/
import Derived.Test.YthjpjhcbefhpbaaClone
namespace Go.Proofs.Ythjpjhcbefhpbaa
open Go.RowKit
set_option linter.unusedSimpArgs false

theorem new_no (w : World) (n : Int) (h : n < 2 ∨ 8192 < n) :
    Calls Try.prog 9 #[.int .i64 n] w fun e w' => e = .returned (.tuple #[.agg #[.slice none 0 0, .slice none 0 0], .int .i64 4]) ∧ Ext w w' := by
  have hcase : n < 2 ∨ (2 ≤ n ∧ 8192 < n) := by omega
  clear h
  rcases hcase with q0 | ⟨q0, q1⟩
  all_goals
    go_enter Try.func9, Try.ntmps9
    go_wp2_with fail
    refine bodyPost_ret (v := .tuple #[.agg #[.slice none 0 0, .slice none 0 0], .int .i64 4]) (by simp [results, Try.results9, go_sem]) rfl ⟨rfl, by (repeat (first | exact Below.refl _ _ | exact Ext.refl _ | assumption | refine Below.drew ?_ | refine below_drewN ?_ _ | refine below_alloc ?_ (by first | exact Nat.le_refl _ | assumption | (simp; done) | omega | (simp; omega)) _ | refine below_ext ?_ (by assumption) (by first | exact Nat.le_refl _ | assumption | (simp; done) | omega | (simp; omega)) | refine Ext.drew ?_ | refine Ext.drewN ?_ _ | refine Ext.alloc ?_ _ | refine Ext.setCell ?_ (by first | assumption | (simp; done) | (simp; omega)) _ | refine Below.setCell ?_ (by first | assumption | (simp; done) | (simp; omega)) _ | refine Ext.trans ?_ (by assumption)))⟩
theorem set_mid {α : Type} (l : List α) (x v : α) (r : List α) : (l ++ x :: r).set l.length v = l ++ v :: r := by
  rw [List.set_append_right _ _ (Nat.le_refl _), Nat.sub_self]
  rfl
set_option maxHeartbeats 1000000 in
theorem new_yes (w : World) (n : Nat) (h0 : 2 ≤ n) (h1 : n ≤ 8192) :
    Calls Try.prog 9 #[.int .i64 n] w fun e w' => (∃ d : Dev, e = .returned (.tuple #[.agg d.cells.toArray, .int .i64 0]) ∧ d.secs.xs.map (·.xs) = List.replicate n (zeros 64) ∧ d.waits = ⟨none, 0, 0, []⟩ ∧ Dev.At w' w.heap.size w'.heap.size d) ∧ Ext w w' := by
  have p0 : (2 : Int) ≤ n := by omega
  have p1 : (n : Int) ≤ 8192 := by omega
  have k1 := mk_rows n (by omega)
  have k2 : ∀ u, (Instr.makeSlice 34 (.int .i64 64) (.int .i64 64)).run Try.prog u = .ok (.slice (some ⟨u.heap.size, 0, none⟩) 64 64) (u.alloc (.cells (bytes (zeros 64)).toArray 5)) := fun u => mk_bytes 64 (by omega) u
  go_enter Try.func9, Try.ntmps9
  go_wp2_with fail
  go_loopw [19] (fun i wr => ∃ (k : Nat) (ss : List Oct), k ≤ n ∧ i = .int .i64 k ∧ Hid (ss.length = k) ∧ Hid (∀ s ∈ ss, s.xs = zeros 64) ∧ Hid (Wr wr 0 wr.heap.size (some ⟨w.heap.size + 1, 0, none⟩) (ss.map Sl.val ++ List.replicate (n - k) nilv)) ∧
      Hid (∀ s ∈ ss, Oct.At wr (w.heap.size + 3) wr.heap.size s) ∧ wr.cell? ⟨w.heap.size + 2, 0, none⟩ = some (.slice (some ⟨w.heap.size + 1, 0, none⟩) n n) ∧ wr.cell? ⟨w.heap.size + 2, 1, none⟩ = some (.slice none 0 0) ∧
      wr.cell? ⟨w.heap.size, 0, none⟩ = some (.slice none 0 0) ∧ wr.cell? ⟨w.heap.size, 1, none⟩ = some (.slice none 0 0) ∧ wr.frozen? ⟨w.heap.size, 0, none⟩ = false ∧ wr.frozen? ⟨w.heap.size, 1, none⟩ = false ∧ Ext w wr ∧ w.heap.size + 2 < wr.heap.size) (fun i _ => n - (intOf i).toNat)
  case atStart =>
    refine ⟨0, [], Nat.zero_le _, rfl, Lib.hid rfl, Lib.hid (by simp), Lib.hid ?_, Lib.hid (by simp), by go_simp, by go_simp, by go_simp, by go_simp, by go_simp, by go_simp, by (repeat (first | exact Below.refl _ _ | exact Ext.refl _ | assumption | refine Below.drew ?_ | refine below_drewN ?_ _ | refine below_alloc ?_ (by first | exact Nat.le_refl _ | assumption | (simp; done) | omega | (simp; omega)) _ | refine below_ext ?_ (by assumption) (by first | exact Nat.le_refl _ | assumption | (simp; done) | omega | (simp; omega)) | refine Ext.drew ?_ | refine Ext.drewN ?_ _ | refine Ext.alloc ?_ _ | refine Ext.setCell ?_ (by first | assumption | (simp; done) | (simp; omega)) _ | refine Below.setCell ?_ (by first | assumption | (simp; done) | (simp; omega)) _ | refine Ext.trans ?_ (by assumption))), by simp⟩
    have := Wr.new (w.alloc (.cells #[.slice none 0 0, .slice none 0 0] 29)) (List.replicate n nilv).toArray 34
    have := (this.ext ((Ext.refl _).alloc (.cells #[.slice (some ⟨w.heap.size + 1, 0, none⟩) n n, .slice none 0 0] 29)) (by simp)).more (Nat.zero_le 0 |> fun _ => Nat.zero_le _) (Nat.le_refl _)
    simpa using this
  case round =>
    obtain ⟨k, ss, hk, rfl, HL, HZ, HW, HA, c0, c1, c2, c3, f2, f3, e1, z1⟩ := hrel
    by_cases hlt : k < n
    · obtain ⟨g0, gf⟩ := HW.out.cell (k := k) (u := nilv) (by rw [List.getElem?_append_right (by simp [HL.out]), List.length_map, HL.out, Nat.sub_self, List.getElem?_replicate, if_pos (by omega)])
      rw [Nat.zero_add] at g0 gf
      have q0 : (0 : Int) ≤ k := by omega
      have q1 : (k : Int) < n := by omega
      have z0 : w.heap.size + 1 < wr.heap.size := by omega
      have z2 : w.heap.size < wr.heap.size := by omega
      go_wp2_with fail
      go_region
      go_wp2_with fail
      go_roundw
      case rel =>
        refine ⟨k + 1, ss ++ [⟨some ⟨wr.heap.size, 0, none⟩, 64, 64, zeros 64⟩], by omega, by go_num, Lib.hid (by rw [List.length_append, HL.out]; rfl), Lib.hid ?_, Lib.hid ?_, Lib.hid ?_, by go_simp, by go_simp, by go_simp, by go_simp, by go_simp, by go_simp, by (repeat (first | exact Below.refl _ _ | exact Ext.refl _ | assumption | refine Below.drew ?_ | refine below_drewN ?_ _ | refine below_alloc ?_ (by first | exact Nat.le_refl _ | assumption | (simp; done) | omega | (simp; omega)) _ | refine below_ext ?_ (by assumption) (by first | exact Nat.le_refl _ | assumption | (simp; done) | omega | (simp; omega)) | refine Ext.drew ?_ | refine Ext.drewN ?_ _ | refine Ext.alloc ?_ _ | refine Ext.setCell ?_ (by first | assumption | (simp; done) | (simp; omega)) _ | refine Below.setCell ?_ (by first | assumption | (simp; done) | (simp; omega)) _ | refine Ext.trans ?_ (by assumption))), by simp; omega⟩
        · intro s hs
          rcases List.mem_append.1 hs with h | h
          · exact HZ.out s h
          · simp only [List.mem_singleton] at h; subst h; rfl
        · have h1 := HW.out.set (k := k) (by rw [List.length_append, List.length_map, HL.out, List.length_replicate]; omega) (.slice (some ⟨wr.heap.size, 0, none⟩) 64 64)
          rw [Nat.zero_add, show n - k = (n - (k + 1)) + 1 by omega, List.replicate_succ, ← HL.out, ← List.length_map (f := Sl.val), set_mid] at h1
          have h2 := (h1.ext (((Ext.refl _).alloc (.cells (bytes (zeros 64)).toArray 5)).drew) (by simp))
          rw [List.length_map, HL.out] at h2
          simpa [Sl.val, List.map_append] using h2
        · intro s hs
          rcases List.mem_append.1 hs with h | h
          · refine Oct.At.imp (HA.out s h) fun A cs hr => ?_
            exact rd_on (((Ext.refl _).alloc (.cells (bytes (zeros 64)).toArray 5)).drew) (by simp) A cs (hr.setCell_low (by show w.heap.size + 1 < w.heap.size + 3; omega) _)
          · simp only [List.mem_singleton] at h
            subst h
            refine ⟨by simp [zeros], Nat.le_refl _, by simp [maxLen], ?_, fun _ _ => trivial⟩
            have h3 := rd_new (wr.setCell ⟨w.heap.size + 1, k, none⟩ (.slice (some ⟨wr.heap.size, 0, none⟩) 64 64)) (bytes (zeros 64)).toArray 5
            rw [octs_flat]
            simpa using (h3.more (lo' := w.heap.size + 3) (by simp; omega) (Nat.le_refl _)).drew
      case measure => simp [intOf]; omega
    · obtain rfl : k = n := by omega
      have hA := Lib.hid (show Dev.At wr (w.heap.size + 1) wr.heap.size ⟨⟨some ⟨w.heap.size + 1, 0, none⟩, k, k, ss⟩, ⟨none, 0, 0, []⟩⟩ from
        ⟨⟨HL.out.symm, Nat.le_refl _, by simp [maxLen]; omega, by
          have h1 := HW.out.rd
          rw [Nat.sub_self, List.replicate_zero, List.append_nil] at h1
          have h2 : ss.flatMap octv = ss.map Sl.val := by
            clear h1 HL HZ HW HA
            induction ss with
            | nil => rfl
            | cons s ss ih => rw [List.flatMap_cons, ih]; rfl
          show Rd wr (w.heap.size + 1) wr.heap.size (some ⟨w.heap.size + 1, 0, none⟩) (ss.flatMap octv)
          rw [h2]
          intro hne
          obtain ⟨b, o, e, _, l2, l3⟩ := h1 hne
          obtain ⟨rfl, rfl⟩ : w.heap.size + 1 = b ∧ 0 = o := by simpa using e
          exact ⟨_, _, rfl, by omega, l2, l3⟩, fun s hs => Oct.At.low (HA.out s hs) (by omega)⟩, ⟨rfl, Nat.le_refl _, Nat.zero_le _, Rd.nil, fun _ h => by simp at h⟩⟩)
      have hM := Lib.hid (show ss.map (·.xs) = List.replicate k (zeros 64) from List.eq_replicate_iff.2 ⟨by rw [List.length_map, HL.out], fun b hb => by
        obtain ⟨s, hs, rfl⟩ := List.mem_map.1 hb
        exact HZ.out s hs⟩)
      have z0 : w.heap.size + 1 < wr.heap.size := by omega
      have z2 : w.heap.size < wr.heap.size := by omega
      go_wp2_with fail
      refine bodyPost_ret (v := .tuple #[.agg #[.slice (some ⟨w.heap.size + 1, 0, none⟩) k k, .slice none 0 0], .int .i64 0]) (by simp [results, Try.results9, go_sem, *]) rfl ⟨⟨⟨⟨some ⟨w.heap.size + 1, 0, none⟩, k, k, ss⟩, ⟨none, 0, 0, []⟩⟩, rfl, hM.out, rfl, ?_⟩, by (repeat (first | exact Below.refl _ _ | exact Ext.refl _ | assumption | refine Below.drew ?_ | refine below_drewN ?_ _ | refine below_alloc ?_ (by first | exact Nat.le_refl _ | assumption | (simp; done) | omega | (simp; omega)) _ | refine below_ext ?_ (by assumption) (by first | exact Nat.le_refl _ | assumption | (simp; done) | omega | (simp; omega)) | refine Ext.drew ?_ | refine Ext.drewN ?_ _ | refine Ext.alloc ?_ _ | refine Ext.setCell ?_ (by first | assumption | (simp; done) | (simp; omega)) _ | refine Below.setCell ?_ (by first | assumption | (simp; done) | (simp; omega)) _ | refine Ext.trans ?_ (by assumption)))⟩
      refine hA.out.imp fun A cs h => ?_
      simpa using ((h.setCell_low (p := ⟨w.heap.size, 0, none⟩) (by show w.heap.size < w.heap.size + 1; omega) (.slice (some ⟨w.heap.size + 1, 0, none⟩) k k)).setCell_low (p := ⟨w.heap.size, 1, none⟩) (by show w.heap.size < w.heap.size + 1; omega) (.slice none 0 0)).more (Nat.le_succ _) (Nat.le_refl _)
end Go.Proofs.Ythjpjhcbefhpbaa
