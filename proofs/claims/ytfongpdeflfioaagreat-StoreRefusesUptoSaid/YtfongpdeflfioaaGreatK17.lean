/- The texts Copied in one file. -/
import Derived.Test.YtfongpdeflfioaaGreatK16
import Derived.Maps.AppendAt
/- device.copied. -/
namespace Go.Proofs.YtfongpdeflfioaaGreat
open Go.RowKit
set_option linter.unusedSimpArgs false

theorem infoW : (Tryz.prog.info? 114).map (fun i => (i.zero, i.size, i.bytes)) = some (some (.agg #[.int .i64 0, .slice none 0 0]), 2, 32) := by kernel_rfl
def Dev.secv (d : Dev) : List (List UInt8) := d.secs.xs.map (·.xs)
def Wrt.abs (x : Wrt) : Int × List UInt8 := (x.pos, x.data.xs)
def Dev.wv (d : Dev) : List (Int × List UInt8) := d.waits.xs.map Wrt.abs
theorem rd_sl {w w' : World} {lo hi : Nat} {s : Oct} (h : Oct.At w lo hi s) (e : Ext w w') (hh : hi ≤ w.heap.size) : Oct.At w' 0 w'.heap.size s := Oct.At.low (Oct.At.on h e hh) (Nat.zero_le _)
set_option maxRecDepth 100000 in
set_option maxHeartbeats 2000000 in
theorem copied_any (d : Dev) (w : World) (h : Dev.At w 0 w.heap.size d) (h1 : d.secs.n ≤ 8192) (h2 : ∀ s ∈ d.secs.xs, s.n ≤ 64) (h3 : d.waits.n * 32 ≤ 140737488355328) (h4 : ∀ x ∈ d.waits.xs, x.data.n ≤ 64) :
    Calls Tryz.prog 62 #[.agg d.cells.toArray] w fun e w' => (∃ (d' : Dev) (g : Nat), e = .returned (.agg d'.cells.toArray) ∧ d'.secv = d.secv ∧ d'.wv = d.wv ∧ d'.secs.n = d.secs.n ∧ Dev.OwnAt w' w.heap.size g d') ∧ Ext w w' := by
  obtain ⟨⟨A, n, c, xs⟩, ⟨B, m, k9, ys⟩⟩ := d
  obtain ⟨⟨a1, a2, a3, a4, a5⟩, ⟨b1, b2, b3, b4, b5⟩⟩ := h
  simp only at a1 a2 a3 a4 a5 b1 b2 b3 b4 b5 h1 h2 h3 h4
  have Hn := Lib.hid a1
  have Hm := Lib.hid b1
  have A5 := Lib.hid a5
  have B5 := Lib.hid b5
  have H2 := Lib.hid h2
  have H4 := Lib.hid h4
  have hc1 : c ≤ 9223372036854775807 := a3
  have hc2 : k9 ≤ 9223372036854775807 := b3
  clear a1 b1 a5 b5 h2 h4 a3 b3
  have k1 := mk_rows n (by omega)
  simp only [Dev.cells, Sl.val]
  go_enter Tryz.func62, Tryz.ntmps62
  go_wp2_with fail
  go_loopw [16] (fun i wr => ∃ (k : Nat) (ss : List Oct), k ≤ n ∧ i = .int .i64 k ∧ Hid (ss.length = k) ∧ Hid (ss.map (·.xs) = (xs.take k).map (·.xs)) ∧ Hid (Wr wr (w.heap.size + 2) wr.heap.size (some ⟨w.heap.size + 2, 0, none⟩) (ss.map Sl.val ++ List.replicate (n - k) nilv)) ∧
      Hid (∀ s ∈ ss, Oct.At wr (w.heap.size + 4) wr.heap.size s) ∧ wr.cell? ⟨w.heap.size + 3, 0, none⟩ = some (.slice (some ⟨w.heap.size + 2, 0, none⟩) n n) ∧ wr.cell? ⟨w.heap.size + 3, 1, none⟩ = some (.slice none 0 0) ∧
      wr.frozen? ⟨w.heap.size + 3, 1, none⟩ = false ∧ wr.cell? ⟨w.heap.size, 0, none⟩ = some (.slice A n c) ∧ wr.cell? ⟨w.heap.size, 1, none⟩ = some (.slice B m k9) ∧
      wr.cell? ⟨w.heap.size + 1, 0, none⟩ = some (.slice none 0 0) ∧ wr.cell? ⟨w.heap.size + 1, 1, none⟩ = some (.slice none 0 0) ∧ wr.frozen? ⟨w.heap.size + 1, 0, none⟩ = false ∧ wr.frozen? ⟨w.heap.size + 1, 1, none⟩ = false ∧ Ext w wr ∧ w.heap.size + 3 < wr.heap.size) (fun i _ => n - (intOf i).toNat)
  case atStart =>
    refine ⟨0, [], Nat.zero_le _, rfl, Lib.hid rfl, Lib.hid (by simp), Lib.hid ?_, Lib.hid (by simp), by go_simp, by go_simp, by go_simp, by go_simp, by go_simp, by go_simp, by go_simp, by go_simp, by go_simp, by (repeat (first | exact Below.refl _ _ | exact Ext.refl _ | assumption | refine Below.drew ?_ | refine below_drewN ?_ _ | refine below_alloc ?_ (by first | exact Nat.le_refl _ | assumption | (simp; done) | omega | (simp; omega)) _ | refine below_ext ?_ (by assumption) (by first | exact Nat.le_refl _ | assumption | (simp; done) | omega | (simp; omega)) | refine Ext.drew ?_ | refine Ext.drewN ?_ _ | refine Ext.alloc ?_ _ | refine Ext.setCell ?_ (by first | assumption | (simp; done) | (simp; omega)) _ | refine Below.setCell ?_ (by first | assumption | (simp; done) | (simp; omega)) _ | refine Ext.trans ?_ (by assumption))), by simp⟩
    have := Wr.new ((w.alloc (.cells #[.slice A n c, .slice B m k9] 25)).alloc (.cells #[.slice none 0 0, .slice none 0 0] 25)) (List.replicate n nilv).toArray 33
    have := this.ext ((Ext.refl _).alloc (.cells #[.slice (some ⟨w.heap.size + 2, 0, none⟩) n n, .slice none 0 0] 25)) (by simp)
    simpa using this
  case round =>
    obtain ⟨k, ss, hk, rfl, HL, HZ, HW, HA, c0, c1, cf, d0, d1, r0, r1, f0, f1, e1, z1⟩ := hrel
    have z0 : w.heap.size < wr.heap.size := by omega
    have z2 : w.heap.size + 1 < wr.heap.size := by omega
    have z3 : w.heap.size + 2 < wr.heap.size := by omega
    by_cases hlt : k < n
    · have hl : k < xs.length := by rw [← Hn.out]; omega
      obtain ⟨g0, gf⟩ := HW.out.cell (k := k) (u := nilv) (by rw [List.getElem?_append_right (by simp [HL.out]), List.length_map, HL.out, Nat.sub_self, List.getElem?_replicate, if_pos (by omega)])
      rw [Nat.zero_add] at g0 gf
      obtain ⟨b1, o1, rfl, _, hb1, G0⟩ := rd_flat (size := 1) (fun _ => rfl) (by omega) a4 hl
      have hx : Oct.At w 0 w.heap.size xs[k] := A5.out _ (List.getElem_mem _)
      have hx64 : xs[k].n ≤ 64 := H2.out _ (List.getElem_mem _)
      have HC := Lib.hid (fun w1 (e : Ext wr w1) => clone_any xs[k] w1 (rd_sl hx (e1.trans e) (Nat.le_refl _)) (by omega))
      have htk := Lib.hid (show (xs.take (k + 1)).map (·.xs) = (xs.take k).map (·.xs) ++ [xs[k].xs] by rw [List.take_succ_eq_append_getElem hl, List.map_append]; rfl)
      have G : wr.cell? ⟨b1, o1 + k, none⟩ = some xs[k].val := by rw [Below.cell e1 hb1]; simpa using G0 0 _ rfl
      clear hx hx64 G0
      generalize xs[k] = x at *
      have q0 : (0 : Int) ≤ k := by omega
      have q1 : (k : Int) < n := by omega
      go_wp2_with fail
      refine rgnE (S := fun w' => w'.cell? ⟨w.heap.size + 3, 0, none⟩ = some (.slice (some ⟨w.heap.size + 2, 0, none⟩) n n) ∧ Ext wr w') (by kernel_rfl) ⟨by go_simp, by (repeat (first | exact Below.refl _ _ | exact Ext.refl _ | assumption | refine Below.drew ?_ | refine below_drewN ?_ _ | refine below_alloc ?_ (by first | exact Nat.le_refl _ | assumption | (simp; done) | omega | (simp; omega)) _ | refine below_ext ?_ (by assumption) (by first | exact Nat.le_refl _ | assumption | (simp; done) | omega | (simp; omega)) | refine Ext.drew ?_ | refine Ext.drewN ?_ _ | refine Ext.alloc ?_ _ | refine Ext.setCell ?_ (by first | assumption | (simp; done) | (simp; omega)) _ | refine Below.setCell ?_ (by first | assumption | (simp; done) | (simp; omega)) _ | refine Ext.trans ?_ (by assumption)))⟩ (fun hHeld => ?_)
      refine takeE 0 (v := ?_) rfl (by kernel_rfl) (by kernel_rfl) (by kernel_rfl) (by kernel_rfl) (fun _ _ _ h => h) (by kernel_rfl) ?_ (by assumption) ?_; rotate_left; (focus (intro w hSw; (try dsimp only at hSw); (try go_split_ands); go_simp <;> with_reducible rfl)); (try simp only [Act.put, lyA, lyB, lyC])
      refine takeE 1 (v := ?_) rfl (by kernel_rfl) (by kernel_rfl) (by kernel_rfl) (by kernel_rfl) (fun _ _ _ h => h) (by kernel_rfl) ?_ (by assumption) ?_; rotate_left; (focus (intro w hSw; (try dsimp only at hSw); (try go_split_ands); go_simp <;> with_reducible rfl)); (try simp only [Act.put, lyA, lyB, lyC])
      refine takeE 2 (v := ?_) rfl (by kernel_rfl) (by kernel_rfl) (by kernel_rfl) (by kernel_rfl) (fun _ _ _ h => h) (by kernel_rfl) ?_ (by assumption) ?_; rotate_left; (focus (intro w hSw; (try dsimp only at hSw); (try go_split_ands); go_simp <;> with_reducible rfl)); (try simp only [Act.put, lyA, lyB, lyC])
      refine takeE 3 (v := ?_) rfl (by kernel_rfl) (by kernel_rfl) (by kernel_rfl) (by kernel_rfl) (fun _ _ _ h => h) (by kernel_rfl) ?_ (by assumption) ?_; rotate_left; (focus (intro w hSw; (try dsimp only at hSw); (try go_split_ands); go_simp <;> with_reducible rfl)); (try simp only [Act.put, lyA, lyB, lyC])
      refine oneE 4 rfl (by kernel_rfl) (by kernel_rfl) (fun K hK => ?_); (try go_simp)
      refine (HC.out _ (by (repeat (first | exact Below.refl _ _ | exact Ext.refl _ | assumption | refine Below.drew ?_ | refine below_drewN ?_ _ | refine below_alloc ?_ (by first | exact Nat.le_refl _ | assumption | (simp; done) | omega | (simp; omega)) _ | refine below_ext ?_ (by assumption) (by first | exact Nat.le_refl _ | assumption | (simp; done) | omega | (simp; omega)) | refine Ext.drew ?_ | refine Ext.drewN ?_ _ | refine Ext.alloc ?_ _ | refine Ext.setCell ?_ (by first | assumption | (simp; done) | (simp; omega)) _ | refine Below.setCell ?_ (by first | assumption | (simp; done) | (simp; omega)) _ | refine Ext.trans ?_ (by assumption))))).mono ?_
      rintro e w2 ⟨s, rfl, hs, ho, e2⟩
      obtain ⟨sv, hsv⟩ : ∃ v, v = s.val := ⟨_, rfl⟩
      have HV := Lib.hid hsv
      obtain ⟨sA, sn, sc, hsl⟩ : ∃ A n c, sv = .slice A n c := ⟨s.A, s.n, s.c, hsv⟩
      rw [← hsv, hsl]
      have HL2 := Lib.hid (hsl.symm.trans hsv)
      clear hsv hsl HV sv
      have HS := Lib.hid hs
      have e3 : Ext wr w2 := by (repeat (first | exact Below.refl _ _ | exact Ext.refl _ | assumption | refine Below.drew ?_ | refine below_drewN ?_ _ | refine below_alloc ?_ (by first | exact Nat.le_refl _ | assumption | (simp; done) | omega | (simp; omega)) _ | refine below_ext ?_ (by assumption) (by first | exact Nat.le_refl _ | assumption | (simp; done) | omega | (simp; omega)) | refine Ext.drew ?_ | refine Ext.drewN ?_ _ | refine Ext.alloc ?_ _ | refine Ext.setCell ?_ (by first | assumption | (simp; done) | (simp; omega)) _ | refine Below.setCell ?_ (by first | assumption | (simp; done) | (simp; omega)) _ | refine Ext.trans ?_ (by assumption)))
      have s0 : w.heap.size + 2 < w2.heap.size := Nat.lt_of_lt_of_le z3 e3.size
      have s1 : w2.cell? ⟨w.heap.size + 2, k, none⟩ = some nilv := by rw [Below.cell e3 z3]; exact g0
      have s2 : w2.frozen? ⟨w.heap.size + 2, k, none⟩ = false := by rw [Below.frozen e3 z3]; exact gf
      clear hs
      go_wp2_with fail
      refine hK.out _ _ ⟨by rw [Below.cell e3 z1]; exact c0, e3⟩ (fun hHeld => ?_)
      clear hK K
      (try simp only [Act.put, lyA, lyB, lyC])
      refine takeE 5 (v := ?_) rfl (by kernel_rfl) (by kernel_rfl) (by kernel_rfl) (by kernel_rfl) (fun _ _ _ h => h) (by kernel_rfl) ?_ (by assumption) ?_; rotate_left; (focus (intro w hSw; (try dsimp only at hSw); (try go_split_ands); go_simp <;> with_reducible rfl)); (try simp only [Act.put, lyA, lyB, lyC])
      refine lastE 6 rfl (by kernel_rfl) (by kernel_rfl) (by kernel_rfl) (by kernel_rfl) (fun K hK => ?_); (try go_simp)
      refine hK.out _ _ ?_; clear hK K; (try simp only [Act.put, lyA, lyB, lyC])
      go_wp2_with fail
      go_roundw
      case rel =>
        rw [HL2.out]
        have hp : ∀ (p : Addr), p.block < wr.heap.size → p.block ≠ w.heap.size + 2 → (w2.setCell ⟨w.heap.size + 2, k, none⟩ s.val).cell? p = wr.cell? p := fun p hp hne =>
          (World.cell?_setCell_other w2 _ p _ (fun e => hne (by rw [← e]))).trans (Below.cell e3 hp)
        have hf : ∀ (p : Addr), p.block < wr.heap.size → (w2.setCell ⟨w.heap.size + 2, k, none⟩ s.val).frozen? p = wr.frozen? p := fun p hp => (World.frozen?_setCell _ _ _ _).trans (Below.frozen e3 hp)
        refine ⟨k + 1, ss ++ [s], by omega, by go_num, Lib.hid (by rw [List.length_append, HL.out]; rfl), Lib.hid ?_, Lib.hid ?_, Lib.hid ?_, by rw [hp _ z1 (by simp)]; exact c0, by rw [hp _ z1 (by simp)]; exact c1, by rw [hf _ z1]; exact cf,
          by rw [hp _ z0 (by simp)]; exact d0, by rw [hp _ z0 (by simp)]; exact d1, by rw [hp _ z2 (by simp)]; exact r0, by rw [hp _ z2 (by simp)]; exact r1, by rw [hf _ z2]; exact f0, by rw [hf _ z2]; exact f1, by (repeat (first | exact Below.refl _ _ | exact Ext.refl _ | assumption | refine Below.drew ?_ | refine below_drewN ?_ _ | refine below_alloc ?_ (by first | exact Nat.le_refl _ | assumption | (simp; done) | omega | (simp; omega)) _ | refine below_ext ?_ (by assumption) (by first | exact Nat.le_refl _ | assumption | (simp; done) | omega | (simp; omega)) | refine Ext.drew ?_ | refine Ext.drewN ?_ _ | refine Ext.alloc ?_ _ | refine Ext.setCell ?_ (by first | assumption | (simp; done) | (simp; omega)) _ | refine Below.setCell ?_ (by first | assumption | (simp; done) | (simp; omega)) _ | refine Ext.trans ?_ (by assumption))), by have := e3.size; simp; omega⟩
        · rw [List.map_append, HZ.out, htk.out, List.map_singleton, HS.out]
        · have h1 := (HW.out.ext e3 (Nat.le_refl _)).set (k := k) (by rw [List.length_append, List.length_map, HL.out, List.length_replicate]; omega) s.val
          rw [Nat.zero_add, show n - k = (n - (k + 1)) + 1 by omega, List.replicate_succ, ← HL.out, ← List.length_map (f := Sl.val), set_mid] at h1
          rw [List.length_map, HL.out] at h1
          simpa [List.map_append] using h1
        · intro s' hs'
          rcases List.mem_append.1 hs' with h | h
          · refine Oct.At.imp (HA.out s' h) fun A cs hr => ?_
            simpa using (rd_on e3 (Nat.le_refl _) A cs hr).setCell_low (p := ⟨w.heap.size + 2, k, none⟩) (by show w.heap.size + 2 < w.heap.size + 4; omega) s.val
          · simp only [List.mem_singleton] at h
            subst h
            refine Oct.At.imp (Oct.At.low (lo' := w.heap.size + 4) ho.at_ (by simp; omega)) fun A cs hr => ?_
            simpa using hr.setCell_low (p := ⟨w.heap.size + 2, k, none⟩) (by show w.heap.size + 2 < w.heap.size + 4; omega) s'.val
      case measure => simp [intOf]; omega
    · obtain rfl : k = n := by omega
      have HW2 := Lib.hid (show Wr wr (w.heap.size + 2) wr.heap.size (some ⟨w.heap.size + 2, 0, none⟩) (ss.map Sl.val) by have := HW.out; rwa [Nat.sub_self, List.replicate_zero, List.append_nil] at this)
      have HZ2 := Lib.hid (show ss.map (·.xs) = xs.map (·.xs) by rw [HZ.out, List.take_of_length_le (by rw [← Hn.out]; exact Nat.le_refl _)])
      clear HW HZ
      have e0 := e1
      go_wp2_with fail
      go_loopw [31] (fun i wx => ∃ (j : Nat) (ws : List Wrt) (vA : Option Addr) (vc : Nat), j ≤ m ∧ i = .int .i64 j ∧ Hid (ws.map Wrt.abs = (ys.take j).map Wrt.abs) ∧ Hid (Wr wx (w.heap.size + 2) wx.heap.size (some ⟨w.heap.size + 2, 0, none⟩) (ss.map Sl.val)) ∧
        Hid (∀ s ∈ ss, Oct.At wx (w.heap.size + 4) wx.heap.size s ∧ Ap (.slice vA j vc) s) ∧ Hid (wx.ownsRow (w.heap.size + 4) 114 2 (.slice vA j vc) j (ws.flatMap Wrt.cells)) ∧ Hid (∀ x ∈ ws, Wrt.At wx (w.heap.size + 4) wx.heap.size x ∧ Ap (.slice vA j vc) x.data) ∧
        wx.cell? ⟨w.heap.size + 3, 0, none⟩ = some (.slice (some ⟨w.heap.size + 2, 0, none⟩) k k) ∧ wx.cell? ⟨w.heap.size + 3, 1, none⟩ = some (.slice vA j vc) ∧
        wx.frozen? ⟨w.heap.size + 3, 1, none⟩ = false ∧ wx.cell? ⟨w.heap.size, 0, none⟩ = some (.slice A k c) ∧ wx.cell? ⟨w.heap.size, 1, none⟩ = some (.slice B m k9) ∧
        wx.cell? ⟨w.heap.size + 1, 0, none⟩ = some (.slice none 0 0) ∧ wx.cell? ⟨w.heap.size + 1, 1, none⟩ = some (.slice none 0 0) ∧ wx.frozen? ⟨w.heap.size + 1, 0, none⟩ = false ∧ wx.frozen? ⟨w.heap.size + 1, 1, none⟩ = false ∧ Ext w wx ∧ w.heap.size + 3 < wx.heap.size) (fun i _ => m - (intOf i).toNat)
      case atStart =>
        refine ⟨0, [], none, 0, Nat.zero_le _, rfl, Lib.hid rfl, HW2, Lib.hid (fun s hs => ⟨HA.out s hs, fun _ b o _ h => by cases h⟩), Lib.hid (World.ownsRow_nil _ _ _ _), Lib.hid (by simp), c0, c1, cf, d0, d1, r0, r1, f0, f1, e1, z1⟩
      case round =>
        clear c0 c1 cf d0 d1 r0 r1 f0 f1 e1 z1 z0 z2 z3 HW2 HA e0 hlt
        obtain ⟨j, ws, vA, vc, hj, rfl, HZ, HW, HA, HO, HX, c0, c1, cf, d0, d1, r0, r1, f0, f1, e1, z1⟩ := hrel
        have z0 : w.heap.size < wr.heap.size := by omega
        have z2 : w.heap.size + 1 < wr.heap.size := by omega
        have z3 : w.heap.size + 2 < wr.heap.size := by omega
        by_cases hlt : j < m
        · have hl : j < ys.length := by rw [← Hm.out]; omega
          obtain ⟨b1, o1, rfl, _, hb1, G0⟩ := rd_flat (size := 2) (fun _ => rfl) (by omega) b4 hl
          have hx : Wrt.At w 0 w.heap.size ys[j] := B5.out _ (List.getElem_mem _)
          have hx64 : ys[j].data.n ≤ 64 := H4.out _ (List.getElem_mem _)
          have HC := Lib.hid (fun w1 (e : Ext wr w1) => clone_any ys[j].data w1 (rd_sl hx.data (e1.trans e) (Nat.le_refl _)) (by omega))
          have HP := Lib.hid (And.intro hx.p0 hx.p1)
          have htk := Lib.hid (show (ys.take (j + 1)).map Wrt.abs = (ys.take j).map Wrt.abs ++ [ys[j].abs] by rw [List.take_succ_eq_append_getElem hl, List.map_append]; rfl)
          have G1 : wr.cell? ⟨b1, o1 + j * 2, none⟩ = some (.int .i64 ys[j].pos) := by rw [Below.cell e1 hb1]; simpa using G0 0 _ rfl
          have G2 : wr.cell? ⟨b1, o1 + j * 2 + 1, none⟩ = some ys[j].data.val := by rw [Below.cell e1 hb1]; simpa using G0 1 _ rfl
          clear hx hx64 G0
          generalize ys[j] = y at *
          obtain ⟨pos, yA, yn, yc, yx⟩ := y
          simp only [Sl.val] at G1 G2 HC HP
          have q0 : (0 : Int) ≤ j := by omega
          have q1 : (j : Int) < m := by omega
          go_wp2_with fail
          generalize hw1 : World.alloc wr _ = w1
          obtain ⟨e4, z4, G4⟩ := box_cells hw1
          have g0 := G4 0 _ rfl
          have g1 := G4 1 _ rfl
          have Z4 := Lib.hid z4
          clear hw1 G4 z4
          have r4 := Ext.refl w1
          have c1' : w1.cell? ⟨w.heap.size + 3, 1, none⟩ = some (.slice vA j vc) := by rw [Below.cell e4 z1]; exact c1
          obtain ⟨i0, hi0, hz0, hz1, hz2⟩ := info_parts infoW
          refine rgnE (S := fun w' => w'.cell? ⟨w.heap.size + 3, 1, none⟩ = some (.slice vA j vc) ∧ w'.cell? ⟨wr.heap.size, 0, none⟩ = some (.int .i64 pos) ∧ w'.cell? ⟨wr.heap.size, 1, none⟩ = some (.slice yA yn yc)) (by kernel_rfl) ⟨c1', g0 _ (by (repeat (first | exact Below.refl _ _ | exact Ext.refl _ | assumption | refine Below.drew ?_ | refine below_drewN ?_ _ | refine below_alloc ?_ (by first | exact Nat.le_refl _ | assumption | (simp; done) | omega | (simp; omega)) _ | refine below_ext ?_ (by assumption) (by first | exact Nat.le_refl _ | assumption | (simp; done) | omega | (simp; omega)) | refine Ext.drew ?_ | refine Ext.drewN ?_ _ | refine Ext.alloc ?_ _ | refine Ext.setCell ?_ (by first | assumption | (simp; done) | (simp; omega)) _ | refine Below.setCell ?_ (by first | assumption | (simp; done) | (simp; omega)) _ | refine Ext.trans ?_ (by assumption)))), g1 _ (by (repeat (first | exact Below.refl _ _ | exact Ext.refl _ | assumption | refine Below.drew ?_ | refine below_drewN ?_ _ | refine below_alloc ?_ (by first | exact Nat.le_refl _ | assumption | (simp; done) | omega | (simp; omega)) _ | refine below_ext ?_ (by assumption) (by first | exact Nat.le_refl _ | assumption | (simp; done) | omega | (simp; omega)) | refine Ext.drew ?_ | refine Ext.drewN ?_ _ | refine Ext.alloc ?_ _ | refine Ext.setCell ?_ (by first | assumption | (simp; done) | (simp; omega)) _ | refine Below.setCell ?_ (by first | assumption | (simp; done) | (simp; omega)) _ | refine Ext.trans ?_ (by assumption))))⟩ (fun hHeld => ?_)
          refine takeE 0 (v := ?_) rfl (by kernel_rfl) (by kernel_rfl) (by kernel_rfl) (by kernel_rfl) (fun _ _ _ h => h) (by kernel_rfl) ?_ (by assumption) ?_; rotate_left; (focus (intro w hSw; (try dsimp only at hSw); (try go_split_ands); go_simp <;> with_reducible rfl)); (try simp only [Act.put, lyA, lyB, lyC])
          refine takeE 1 (v := ?_) rfl (by kernel_rfl) (by kernel_rfl) (by kernel_rfl) (by kernel_rfl) (fun _ _ _ h => h) (by kernel_rfl) ?_ (by assumption) ?_; rotate_left; (focus (intro w hSw; (try dsimp only at hSw); (try go_split_ands); go_simp <;> with_reducible rfl)); (try simp only [Act.put, lyA, lyB, lyC])
          refine takeE 2 (v := ?_) rfl (by kernel_rfl) (by kernel_rfl) (by kernel_rfl) (by kernel_rfl) (fun _ _ _ h => h) (by kernel_rfl) ?_ (by assumption) ?_; rotate_left; (focus (intro w hSw; (try dsimp only at hSw); (try go_split_ands); go_simp <;> with_reducible rfl)); (try simp only [Act.put, lyA, lyB, lyC])
          refine takeE 3 (v := ?_) rfl (by kernel_rfl) (by kernel_rfl) (by kernel_rfl) (by kernel_rfl) (fun _ _ _ h => h) (by kernel_rfl) ?_ (by assumption) ?_; rotate_left; (focus (intro w hSw; (try dsimp only at hSw); (try go_split_ands); go_simp <;> with_reducible rfl)); (try simp only [Act.put, lyA, lyB, lyC])
          refine takeE 4 (v := ?_) rfl (by kernel_rfl) (by kernel_rfl) (by kernel_rfl) (by kernel_rfl) (fun _ _ _ h => h) (by kernel_rfl) ?_ (by assumption) ?_; rotate_left; (focus (intro w hSw; (try dsimp only at hSw); (try go_split_ands); go_simp <;> with_reducible rfl)); (try simp only [Act.put, lyA, lyB, lyC])
          refine takeE 5 (v := ?_) rfl (by kernel_rfl) (by kernel_rfl) (by kernel_rfl) (by kernel_rfl) (fun _ _ _ h => h) (by kernel_rfl) ?_ (by assumption) ?_; rotate_left; (focus (intro w hSw; (try dsimp only at hSw); (try go_split_ands); go_simp <;> with_reducible rfl)); (try simp only [Act.put, lyA, lyB, lyC])
          refine oneE 6 rfl (by kernel_rfl) (by kernel_rfl) (fun K hK => ?_); (try go_simp)
          refine (HC.out _ (by (repeat (first | exact Below.refl _ _ | exact Ext.refl _ | assumption | refine Below.drew ?_ | refine below_drewN ?_ _ | refine below_alloc ?_ (by first | exact Nat.le_refl _ | assumption | (simp; done) | omega | (simp; omega)) _ | refine below_ext ?_ (by assumption) (by first | exact Nat.le_refl _ | assumption | (simp; done) | omega | (simp; omega)) | refine Ext.drew ?_ | refine Ext.drewN ?_ _ | refine Ext.alloc ?_ _ | refine Ext.setCell ?_ (by first | assumption | (simp; done) | (simp; omega)) _ | refine Below.setCell ?_ (by first | assumption | (simp; done) | (simp; omega)) _ | refine Ext.trans ?_ (by assumption))))).mono ?_
          rintro e w2 ⟨s, rfl, hs, ho, e2⟩
          have HS := Lib.hid hs
          have e3 : Ext w1 w2 := by (repeat (first | exact Below.refl _ _ | exact Ext.refl _ | assumption | refine Below.drew ?_ | refine below_drewN ?_ _ | refine below_alloc ?_ (by first | exact Nat.le_refl _ | assumption | (simp; done) | omega | (simp; omega)) _ | refine below_ext ?_ (by assumption) (by first | exact Nat.le_refl _ | assumption | (simp; done) | omega | (simp; omega)) | refine Ext.drew ?_ | refine Ext.drewN ?_ _ | refine Ext.alloc ?_ _ | refine Ext.setCell ?_ (by first | assumption | (simp; done) | (simp; omega)) _ | refine Below.setCell ?_ (by first | assumption | (simp; done) | (simp; omega)) _ | refine Ext.trans ?_ (by assumption)))
          clear hs
          go_wp2_with fail
          refine hK.out _ _ ⟨by rw [Below.cell e3 (Nat.lt_of_lt_of_le z1 e4.size)]; exact c1', g0 _ e3, g1 _ e3⟩ (fun hHeld => ?_)
          clear hK K
          (try simp only [Act.put, lyA, lyB, lyC])
          refine takeE 7 (v := ?_) rfl (by kernel_rfl) (by kernel_rfl) (by kernel_rfl) (by kernel_rfl) (fun _ _ _ h => h) (by kernel_rfl) ?_ (by assumption) ?_; rotate_left; (focus (intro w hSw; (try dsimp only at hSw); (try go_split_ands); go_simp <;> with_reducible rfl)); (try simp only [Act.put, lyA, lyB, lyC])
          refine oneE 8 rfl (by kernel_rfl) (by kernel_rfl) (fun K hK => ?_); (try go_simp)
          generalize hw3 : World.alloc w2 _ = w3
          have e5 : Ext w2 w3 := by rw [← hw3]; exact (Ext.refl _).alloc _
          have z5 : w3.heap.size = w2.heap.size + 1 := by rw [← hw3]; simp
          have HN : Hid (Rd w3 w2.heap.size w3.heap.size (some ⟨w2.heap.size, 0, none⟩) [.int .i64 pos, s.val]) := by
            subst hw3
            have := rd_new w2 #[.int .i64 pos, s.val] 114
            rw [Hid]
            simpa [Sl.val] using this
          have e6 : Ext w1 w3 := e3.trans e5
          have e7 : Ext wr w3 := e4.trans e6
          clear hw3
          refine hK.out _ _ ⟨by rw [Below.cell e7 z1]; exact c1, g0 _ e6, g1 _ e6⟩ (fun hHeld => ?_)
          clear hK K
          (try simp only [Act.put, lyA, lyB, lyC])
          refine oneE 9 rfl (by kernel_rfl) (by kernel_rfl) (fun K hK => ?_)
          have o3 := own_ext HO.out e7
          have l3 := fun g h => o3.lt g h
          refine wp_append_any w3 (.tmp 36) (.tmp 43) _ rfl (w.heap.size + 4) 114 i0 _ 2 32 Tryz.underlying23 hi0 hz0 hz1 hz2 rfl (by omega) (.slice vA j vc) j (ws.flatMap Wrt.cells) rfl o3 w2.heap.size w3.heap.size (some ⟨w2.heap.size, 0, none⟩) 1 1 [.int .i64 pos, s.val] rfl rfl HN.out
            (by intro u hu; simp only [List.mem_cons, List.not_mem_nil, or_false] at hu; rcases hu with rfl | rfl <;> rfl) (by unfold maxLen; omega) (by omega) (by have := e7.size; omega) ?_
          intro v4 w4 o4 hg hob
          have hob' : ∀ b, (Value.slice vA j vc).ownBlock = some b → w.heap.size + 4 ≤ b ∧ b < wr.heap.size := fun b hb => HO.out.lt b hb
          have hcell : ∀ p : Addr, p.block < w3.heap.size → (Value.slice vA j vc).ownBlock ≠ some p.block → w4.cell? p = w3.cell? p ∧ w4.frozen? p = w3.frozen? p := fun p hp hne =>
            ⟨World.cell?_of_block (hg.block p.block hp (fun e => hne e.symm)), World.frozen?_of_block (hg.block p.block hp (fun e => hne e.symm))⟩
          have hlow : ∀ p : Addr, p.block < w.heap.size + 4 → w4.cell? p = wr.cell? p ∧ w4.frozen? p = wr.frozen? p := fun p hp => by
            have h1 := hcell p (by have := e7.size; omega) (fun e => by have := hob' _ e; omega)
            exact ⟨h1.1.trans (Below.cell e7 (by omega)), h1.2.trans (Below.frozen e7 (by omega))⟩
          have hbox : ∀ p : Addr, p.block = wr.heap.size → w4.cell? p = w3.cell? p := fun p hp => (hcell p (by have := e6.size; have := Z4.out; omega) (fun e => by have := hob' _ e; omega)).1
          obtain ⟨vA4, vc4, rfl, _, _, _⟩ := own_form o4
          have hc4 : w4.cell? ⟨w.heap.size + 3, 1, none⟩ = some (.slice vA j vc) := by rw [(hlow _ (by simp)).1]; exact c1
          have hf4 : w4.frozen? ⟨w.heap.size + 3, 1, none⟩ = false := by rw [(hlow _ (by simp)).2]; exact cf
          refine hK.out _ _ ⟨hc4, by rw [hbox _ rfl]; exact g0 _ e6, by rw [hbox _ rfl]; exact g1 _ e6⟩ (fun hHeld => ?_)
          clear hK K
          (try simp only [Act.put, lyA, lyB, lyC])
          refine takeE 10 (v := ?_) rfl (by kernel_rfl) (by kernel_rfl) (by kernel_rfl) (by kernel_rfl) (fun _ _ _ h => h) (by kernel_rfl) ?_ (by assumption) ?_; rotate_left; (focus (intro w hSw; (try dsimp only at hSw); (try go_split_ands); go_simp <;> with_reducible rfl)); (try simp only [Act.put, lyA, lyB, lyC])
          refine lastE 11 rfl (by kernel_rfl) (by kernel_rfl) (by kernel_rfl) (by kernel_rfl) (fun K hK => ?_); (try go_simp)
          refine hK.out _ _ ?_; clear hK K; (try simp only [Act.put, lyA, lyB, lyC])
          go_wp2_with fail
          go_roundw
          case rel =>
            have hp : ∀ (p : Addr) (u : Value), p.block < w.heap.size + 4 → p ≠ ⟨w.heap.size + 3, 1, none⟩ → (w4.setCell ⟨w.heap.size + 3, 1, none⟩ u).cell? p = wr.cell? p := fun p u hp hne =>
              (World.cell?_setCell_other w4 _ p _ (fun e => hne e.symm)).trans (hlow p hp).1
            have hf : ∀ (p : Addr) (u : Value), p.block < w.heap.size + 4 → (w4.setCell ⟨w.heap.size + 3, 1, none⟩ u).frozen? p = wr.frozen? p := fun p u hp => (World.frozen?_setCell _ _ _ _).trans (hlow p hp).2
            have hE : Ext w (w4.setCell ⟨w.heap.size + 3, 1, none⟩ (.slice vA4 (j + 1) vc4)) := by
              refine Ext.setCell (ext_grown (base := w.heap.size + 4) (by exact e1.trans e7) o3 hg (by omega)) (by simp) _
            have hsz : (w4.setCell ⟨w.heap.size + 3, 1, none⟩ (.slice vA4 (j + 1) vc4)).heap.size = w4.heap.size := by simp
            have hob4 : ∀ b, (Value.slice vA4 (j + 1) vc4).ownBlock = some b → (w.heap.size + 4 ≤ b ∧ b < wr.heap.size) ∨ b = w3.heap.size := fun b hb => by
              rcases hob with h | h
              · exact .inl (hob' b (by rw [← h]; exact hb))
              · rw [h] at hb; exact .inr (by injection hb with hb; exact hb.symm)
            have sz6 := e6.size
            have sz4 := e4.size
            have sz3 := e3.size
            have Zs := Z4.out
            have hsat : Oct.At w2 (wr.heap.size + 1) w2.heap.size s := Oct.At.low ho.at_ (by simp; omega)
            have keepO : ∀ x : Oct, Oct.At wr (w.heap.size + 4) wr.heap.size x → Ap (.slice vA j vc) x → Oct.At (w4.setCell ⟨w.heap.size + 3, 1, none⟩ (.slice vA4 (j + 1) vc4)) (w.heap.size + 4) (w4.setCell ⟨w.heap.size + 3, 1, none⟩ (.slice vA4 (j + 1) vc4)).heap.size x ∧ Ap (.slice vA4 (j + 1) vc4) x := fun x hx ha => by
              refine ⟨?_, ?_⟩
              · rw [hsz]
                exact Oct.At.set_low (Oct.At.grown (Oct.At.on hx e7 (Nat.le_refl _)) hg ha) (by show w.heap.size + 3 < w.heap.size + 4; omega) _
              · intro hn b o hA hb
                rcases hob with h | h
                · exact ha hn b o hA (by rw [← h]; exact hb)
                · rw [h] at hb
                  injection hb with hb
                  exact Ap.of_lt hx (v := .slice vA4 (j + 1) vc4) (fun b' hb' => by rw [h] at hb'; injection hb' with hb'; omega) hn b o hA (by rw [h, hb])
            have hnew : Oct.At (w4.setCell ⟨w.heap.size + 3, 1, none⟩ (.slice vA4 (j + 1) vc4)) (w.heap.size + 4) (w4.setCell ⟨w.heap.size + 3, 1, none⟩ (.slice vA4 (j + 1) vc4)).heap.size s ∧ Ap (.slice vA4 (j + 1) vc4) s := by
              refine ⟨?_, Ap.of_lt hsat fun b hb => ?_⟩
              · rw [hsz]
                exact Oct.At.set_low (Oct.At.grown (Oct.At.low (Oct.At.on hsat e5 (Nat.le_refl _)) (by omega)) hg (Ap.of_lt hsat fun b hb => by have := hob' b hb; omega)) (by show w.heap.size + 3 < w.heap.size + 4; omega) _
              · rcases hob4 b hb with h | h <;> omega
            refine ⟨j + 1, ws ++ [⟨pos, s⟩], vA4, vc4, by omega, by go_num, Lib.hid ?_, Lib.hid ?_, Lib.hid (fun x hx => keepO x (HA.out x hx).1 (HA.out x hx).2), Lib.hid ?_, Lib.hid ?_, by rw [hp _ _ (by simp) (by simp)]; exact c0, World.cell?_setCell_same _ _ _ hc4, by rw [hf _ _ (by simp)]; exact cf,
              by rw [hp _ _ (by simp) (by simp)]; exact d0, by rw [hp _ _ (by simp) (by simp)]; exact d1, by rw [hp _ _ (by simp) (by simp)]; exact r0, by rw [hp _ _ (by simp) (by simp)]; exact r1, by rw [hf _ _ (by simp)]; exact f0, by rw [hf _ _ (by simp)]; exact f1, hE, by rw [hsz]; have := hg.size; omega⟩
            · rw [List.map_append, HZ.out, htk.out, List.map_singleton]
              show _ ++ [(pos, s.xs)] = _ ++ [(pos, yx)]
              rw [HS.out]
            · have := ((HW.out.ext e7 (Nat.le_refl _)).grown_ne hg (Nat.le_refl _) (fun _ b o hA hb => by
                injection hA with hA
                injection hA with hA
                subst hA
                have := hob' _ hb
                omega)).else_ (p := ⟨w.heap.size + 3, 1, none⟩) (by show w.heap.size + 3 ≠ w.heap.size + 2; omega) (.slice vA4 (j + 1) vc4)
              exact this.more (Nat.le_refl _) (by rw [hsz]; exact hg.size)
            · have := own_set o4 (p := ⟨w.heap.size + 3, 1, none⟩) (by show w.heap.size + 3 < w.heap.size + 4; omega) (.slice vA4 (j + 1) vc4)
              rw [List.flatMap_append]
              simpa [Wrt.cells] using this
            · intro x hx
              rcases List.mem_append.1 hx with h | h
              · obtain ⟨h1, h2⟩ := HX.out x h
                obtain ⟨h3, h4⟩ := keepO x.data h1.data h2
                exact ⟨⟨h1.p0, h1.p1, h3⟩, h4⟩
              · simp only [List.mem_singleton] at h
                subst h
                exact ⟨⟨HP.out.1, HP.out.2, hnew.1⟩, hnew.2⟩
          case measure => simp [intOf]; omega
        · obtain rfl : j = m := by omega
          have HD := Lib.hid (show Dev.OwnAt wr w.heap.size (w.heap.size + 2) ⟨⟨some ⟨w.heap.size + 2, 0, none⟩, k, k, ss⟩, ⟨vA, j, vc, ws⟩⟩ from
            ⟨by omega, by omega, rfl, HL.out.symm, Nat.le_refl _, by unfold maxLen; show k ≤ _; omega, HW.out, fun s hs => ⟨Oct.At.low (HA.out s hs).1 (by omega), (HA.out s hs).2⟩, by
              have := congrArg List.length HZ.out
              rw [List.length_map, List.length_map, List.length_take] at this
              show j = ws.length
              have := Hm.out
              omega, own_lower HO.out (by omega), fun x hx => ⟨Wrt.At.imp (HX.out x hx).1 fun _ _ hr => hr.more (by omega) (Nat.le_refl _), (HX.out x hx).2⟩⟩)
          have HWV := Lib.hid (show ws.map Wrt.abs = ys.map Wrt.abs by rw [HZ.out, List.take_of_length_le (by rw [← Hm.out]; exact Nat.le_refl _)])
          go_wp2_with fail
          refine bodyPost_ret (v := .agg #[.slice (some ⟨w.heap.size + 2, 0, none⟩) k k, .slice vA j vc]) (by simp [results, Tryz.results62, go_sem, *]) rfl ⟨⟨⟨⟨some ⟨w.heap.size + 2, 0, none⟩, k, k, ss⟩, ⟨vA, j, vc, ws⟩⟩, w.heap.size + 2, rfl, HZ2.out, HWV.out, rfl, ?_⟩, by (repeat (first | exact Below.refl _ _ | exact Ext.refl _ | assumption | refine Below.drew ?_ | refine below_drewN ?_ _ | refine below_alloc ?_ (by first | exact Nat.le_refl _ | assumption | (simp; done) | omega | (simp; omega)) _ | refine below_ext ?_ (by assumption) (by first | exact Nat.le_refl _ | assumption | (simp; done) | omega | (simp; omega)) | refine Ext.drew ?_ | refine Ext.drewN ?_ _ | refine Ext.alloc ?_ _ | refine Ext.setCell ?_ (by first | assumption | (simp; done) | (simp; omega)) _ | refine Below.setCell ?_ (by first | assumption | (simp; done) | (simp; omega)) _ | refine Ext.trans ?_ (by assumption)))⟩
          exact (HD.out.set_low (p := ⟨w.heap.size + 1, 0, none⟩) (by show w.heap.size + 1 < w.heap.size + 2; omega) _).set_low (p := ⟨w.heap.size + 1, 1, none⟩) (by show w.heap.size + 1 < w.heap.size + 2; omega) _
end Go.Proofs.YtfongpdeflfioaaGreat
