/- The texts Copied, Settle, Fault in one file. -/
import Derived.Test.YtfongpdeflfioaaGreatS13
import Derived.Maps.AppendAt
import Derived.Test.YtfongpdeflfioaaGreatS5
import Derived.Test.YtfongpdeflfioaaGreatS2
/- device.copied. -/
namespace Go.Proofs.YtfongpdeflfioaaGreat
open Go.RowKit
set_option linter.unusedSimpArgs false
theorem infoW : (Tryz.prog.info? 114).map (fun i => (i.zero, i.size, i.bytes)) = some (some (.agg #[.int .i64 0, .slice none 0 0]), 2, 32) := by kernel_rfl
def Dev.secv (d : Dev) : List (List UInt8) := d.secs.xs.map (·.xs)
def Wrt.abs (x : Wrt) : Int × List UInt8 := (x.pos, x.data.xs)
def Dev.wv (d : Dev) : List (Int × List UInt8) := d.waits.xs.map Wrt.abs
theorem rd_sl {w w' : World} {lo hi : Nat} {s : Oct} (h : Oct.At w lo hi s) (e : Ext w w') (hh : hi ≤ w.heap.size) : Oct.At w' 0 w'.heap.size s := Oct.At.low (Oct.At.on h e hh) (Nat.zero_le _)
set_option maxRecDepth 100000 in
set_option maxHeartbeats 2000000 in
theorem copied_any (d : Dev) (w : World) (h : Dev.At w 0 w.heap.size d) (h1 : d.secs.n ≤ 8192) (h2 : ∀ s ∈ d.secs.xs, s.n ≤ 64) (h3 : d.waits.n * 32 ≤ 140737488355328) (h4 : ∀ x ∈ d.waits.xs, x.data.n ≤ 64) :
    Calls Tryz.prog 62 #[.agg d.cells.toArray] w fun e w' => (∃ (d' : Dev) (g : Nat), e = .returned (.agg d'.cells.toArray) ∧ d'.secv = d.secv ∧ d'.wv = d.wv ∧ d'.secs.n = d.secs.n ∧ Dev.OwnAt w' w.heap.size g d') ∧ Ext w w' := by
  obtain ⟨⟨A, n, c, xs⟩, ⟨B, m, k9, ys⟩⟩ := d
  obtain ⟨⟨a1, a2, a3, a4, a5⟩, ⟨b1, b2, b3, b4, b5⟩⟩ := h
  simp only at a1 a2 a3 a4 a5 b1 b2 b3 b4 b5 h1 h2 h3 h4
  have Hn := Lib.hid a1
  have Hm := Lib.hid b1
  have A5 := Lib.hid a5
  have B5 := Lib.hid b5
  have H2 := Lib.hid h2
  have H4 := Lib.hid h4
  have hc1 : c ≤ 9223372036854775807 := a3
  have hc2 : k9 ≤ 9223372036854775807 := b3
  clear a1 b1 a5 b5 h2 h4 a3 b3
  have k1 := mk_rows n (by omega)
  simp only [Dev.cells, Sl.val]
  go_enter Tryz.func62, Tryz.ntmps62
  go_wp2_with fail
  go_loopw [16] (fun i wr => ∃ (k : Nat) (ss : List Oct), k ≤ n ∧ i = .int .i64 k ∧ Hid (ss.length = k) ∧ Hid (ss.map (·.xs) = (xs.take k).map (·.xs)) ∧ Hid (Wr wr (w.heap.size + 2) wr.heap.size (some ⟨w.heap.size + 2, 0, none⟩) (ss.map Sl.val ++ List.replicate (n - k) nilv)) ∧
      Hid (∀ s ∈ ss, Oct.At wr (w.heap.size + 4) wr.heap.size s) ∧ wr.cell? ⟨w.heap.size + 3, 0, none⟩ = some (.slice (some ⟨w.heap.size + 2, 0, none⟩) n n) ∧ wr.cell? ⟨w.heap.size + 3, 1, none⟩ = some (.slice none 0 0) ∧
      wr.frozen? ⟨w.heap.size + 3, 1, none⟩ = false ∧ wr.cell? ⟨w.heap.size, 0, none⟩ = some (.slice A n c) ∧ wr.cell? ⟨w.heap.size, 1, none⟩ = some (.slice B m k9) ∧
      wr.cell? ⟨w.heap.size + 1, 0, none⟩ = some (.slice none 0 0) ∧ wr.cell? ⟨w.heap.size + 1, 1, none⟩ = some (.slice none 0 0) ∧ wr.frozen? ⟨w.heap.size + 1, 0, none⟩ = false ∧ wr.frozen? ⟨w.heap.size + 1, 1, none⟩ = false ∧ Ext w wr ∧ w.heap.size + 3 < wr.heap.size) (fun i _ => n - (intOf i).toNat)
  case atStart =>
    refine ⟨0, [], Nat.zero_le _, rfl, Lib.hid rfl, Lib.hid (by simp), Lib.hid ?_, Lib.hid (by simp), by go_simp, by go_simp, by go_simp, by go_simp, by go_simp, by go_simp, by go_simp, by go_simp, by go_simp, by exact blo, by simp⟩
    have := Wr.new ((w.alloc (.cells #[.slice A n c, .slice B m k9] 25)).alloc (.cells #[.slice none 0 0, .slice none 0 0] 25)) (List.replicate n nilv).toArray 33
    have := this.ext ((Ext.refl _).alloc (.cells #[.slice (some ⟨w.heap.size + 2, 0, none⟩) n n, .slice none 0 0] 25)) (by simp)
    simpa using this
  case round =>
    obtain ⟨k, ss, hk, rfl, HL, HZ, HW, HA, c0, c1, cf, d0, d1, r0, r1, f0, f1, e1, z1⟩ := hrel
    have z0 : w.heap.size < wr.heap.size := by omega
    have z2 : w.heap.size + 1 < wr.heap.size := by omega
    have z3 : w.heap.size + 2 < wr.heap.size := by omega
    by_cases hlt : k < n
    · have hl : k < xs.length := by rw [← Hn.out]; omega
      obtain ⟨g0, gf⟩ := HW.out.cell (k := k) (u := nilv) (by rw [List.getElem?_append_right (by simp [HL.out]), List.length_map, HL.out, Nat.sub_self, List.getElem?_replicate, if_pos (by omega)])
      rw [Nat.zero_add] at g0 gf
      obtain ⟨b1, o1, rfl, _, hb1, G0⟩ := rd_flat (size := 1) (fun _ => rfl) (by omega) a4 hl
      have hx : Oct.At w 0 w.heap.size xs[k] := A5.out _ (List.getElem_mem _)
      have hx64 : xs[k].n ≤ 64 := H2.out _ (List.getElem_mem _)
      have HC := Lib.hid (fun w1 (e : Ext wr w1) => clone_any xs[k] w1 (rd_sl hx (e1.trans e) (Nat.le_refl _)) (by omega))
      have htk := Lib.hid (show (xs.take (k + 1)).map (·.xs) = (xs.take k).map (·.xs) ++ [xs[k].xs] by rw [List.take_succ_eq_append_getElem hl, List.map_append]; rfl)
      have G : wr.cell? ⟨b1, o1 + k, none⟩ = some xs[k].val := by rw [Below.cell e1 hb1]; simpa using G0 0 _ rfl
      clear hx hx64 G0
      generalize xs[k] = x at *
      have q0 : (0 : Int) ≤ k := by omega
      have q1 : (k : Int) < n := by omega
      go_wp2_with fail
      refine rgnE (S := fun w' => w'.cell? ⟨w.heap.size + 3, 0, none⟩ = some (.slice (some ⟨w.heap.size + 2, 0, none⟩) n n) ∧ Ext wr w') (by kernel_rfl) ⟨by go_simp, by exact blo⟩ (fun hHeld => ?_)
      refine eS 0 ?_; (try simp only [Act.put, lyA, lyB, lyC])
      refine eS 1 ?_; (try simp only [Act.put, lyA, lyB, lyC])
      refine eS 2 ?_; (try simp only [Act.put, lyA, lyB, lyC])
      refine eS 3 ?_; (try simp only [Act.put, lyA, lyB, lyC])
      refine oneE 4 rfl (by kernel_rfl) (by kernel_rfl) (fun K hK => ?_); (try go_simp)
      refine (HC.out _ (by exact blo)).mono ?_
      rintro e w2 ⟨s, rfl, hs, ho, e2⟩
      obtain ⟨sv, hsv⟩ : ∃ v, v = s.val := ⟨_, rfl⟩
      have HV := Lib.hid hsv
      obtain ⟨sA, sn, sc, hsl⟩ : ∃ A n c, sv = .slice A n c := ⟨s.A, s.n, s.c, hsv⟩
      rw [← hsv, hsl]
      have HL2 := Lib.hid (hsl.symm.trans hsv)
      clear hsv hsl HV sv
      have HS := Lib.hid hs
      have e3 : Ext wr w2 := by exact blo
      have s0 : w.heap.size + 2 < w2.heap.size := Nat.lt_of_lt_of_le z3 e3.size
      have s1 : w2.cell? ⟨w.heap.size + 2, k, none⟩ = some nilv := by rw [Below.cell e3 z3]; exact g0
      have s2 : w2.frozen? ⟨w.heap.size + 2, k, none⟩ = false := by rw [Below.frozen e3 z3]; exact gf
      clear hs
      go_wp2_with fail
      refine hK.out _ _ ⟨by rw [Below.cell e3 z1]; exact c0, e3⟩ (fun hHeld => ?_)
      clear hK K
      (try simp only [Act.put, lyA, lyB, lyC])
      refine eS 5 ?_; (try simp only [Act.put, lyA, lyB, lyC])
      refine lastE 6 rfl (by kernel_rfl) (by kernel_rfl) (by kernel_rfl) (by kernel_rfl) (fun K hK => ?_); (try go_simp)
      refine hK.out _ _ ?_; clear hK K; (try simp only [Act.put, lyA, lyB, lyC])
      go_wp2_with fail
      go_roundw
      case rel =>
        rw [HL2.out]
        have hp : ∀ (p : Addr), p.block < wr.heap.size → p.block ≠ w.heap.size + 2 → (w2.setCell ⟨w.heap.size + 2, k, none⟩ s.val).cell? p = wr.cell? p := fun p hp hne =>
          (World.cell?_setCell_other w2 _ p _ (fun e => hne (by rw [← e]))).trans (Below.cell e3 hp)
        have hf : ∀ (p : Addr), p.block < wr.heap.size → (w2.setCell ⟨w.heap.size + 2, k, none⟩ s.val).frozen? p = wr.frozen? p := fun p hp => (World.frozen?_setCell _ _ _ _).trans (Below.frozen e3 hp)
        refine ⟨k + 1, ss ++ [s], by omega, by go_num, Lib.hid (by rw [List.length_append, HL.out]; rfl), Lib.hid ?_, Lib.hid ?_, Lib.hid ?_, by rw [hp _ z1 (by simp)]; exact c0, by rw [hp _ z1 (by simp)]; exact c1, by rw [hf _ z1]; exact cf,
          by rw [hp _ z0 (by simp)]; exact d0, by rw [hp _ z0 (by simp)]; exact d1, by rw [hp _ z2 (by simp)]; exact r0, by rw [hp _ z2 (by simp)]; exact r1, by rw [hf _ z2]; exact f0, by rw [hf _ z2]; exact f1, by exact blo, by have := e3.size; simp; omega⟩
        · rw [List.map_append, HZ.out, htk.out, List.map_singleton, HS.out]
        · have h1 := (HW.out.ext e3 (Nat.le_refl _)).set (k := k) (by rw [List.length_append, List.length_map, HL.out, List.length_replicate]; omega) s.val
          rw [Nat.zero_add, show n - k = (n - (k + 1)) + 1 by omega, List.replicate_succ, ← HL.out, ← List.length_map (f := Sl.val), set_mid] at h1
          rw [List.length_map, HL.out] at h1
          simpa [List.map_append] using h1
        · intro s' hs'
          rcases List.mem_append.1 hs' with h | h
          · refine Oct.At.imp (HA.out s' h) fun A cs hr => ?_
            simpa using (rd_on e3 (Nat.le_refl _) A cs hr).setCell_low (p := ⟨w.heap.size + 2, k, none⟩) (by show w.heap.size + 2 < w.heap.size + 4; omega) s.val
          · simp only [List.mem_singleton] at h
            subst h
            refine Oct.At.imp (Oct.At.low (lo' := w.heap.size + 4) ho.at_ (by simp; omega)) fun A cs hr => ?_
            simpa using hr.setCell_low (p := ⟨w.heap.size + 2, k, none⟩) (by show w.heap.size + 2 < w.heap.size + 4; omega) s'.val
      case measure => simp [intOf]; omega
    · obtain rfl : k = n := by omega
      have HW2 := Lib.hid (show Wr wr (w.heap.size + 2) wr.heap.size (some ⟨w.heap.size + 2, 0, none⟩) (ss.map Sl.val) by have := HW.out; rwa [Nat.sub_self, List.replicate_zero, List.append_nil] at this)
      have HZ2 := Lib.hid (show ss.map (·.xs) = xs.map (·.xs) by rw [HZ.out, List.take_of_length_le (by rw [← Hn.out]; exact Nat.le_refl _)])
      clear HW HZ
      have e0 := e1
      go_wp2_with fail
      go_loopw [31] (fun i wx => ∃ (j : Nat) (ws : List Wrt) (vA : Option Addr) (vc : Nat), j ≤ m ∧ i = .int .i64 j ∧ Hid (ws.map Wrt.abs = (ys.take j).map Wrt.abs) ∧ Hid (Wr wx (w.heap.size + 2) wx.heap.size (some ⟨w.heap.size + 2, 0, none⟩) (ss.map Sl.val)) ∧
        Hid (∀ s ∈ ss, Oct.At wx (w.heap.size + 4) wx.heap.size s ∧ Ap (.slice vA j vc) s) ∧ Hid (wx.ownsRow (w.heap.size + 4) 114 2 (.slice vA j vc) j (ws.flatMap Wrt.cells)) ∧ Hid (∀ x ∈ ws, Wrt.At wx (w.heap.size + 4) wx.heap.size x ∧ Ap (.slice vA j vc) x.data) ∧
        wx.cell? ⟨w.heap.size + 3, 0, none⟩ = some (.slice (some ⟨w.heap.size + 2, 0, none⟩) k k) ∧ wx.cell? ⟨w.heap.size + 3, 1, none⟩ = some (.slice vA j vc) ∧
        wx.frozen? ⟨w.heap.size + 3, 1, none⟩ = false ∧ wx.cell? ⟨w.heap.size, 0, none⟩ = some (.slice A k c) ∧ wx.cell? ⟨w.heap.size, 1, none⟩ = some (.slice B m k9) ∧
        wx.cell? ⟨w.heap.size + 1, 0, none⟩ = some (.slice none 0 0) ∧ wx.cell? ⟨w.heap.size + 1, 1, none⟩ = some (.slice none 0 0) ∧ wx.frozen? ⟨w.heap.size + 1, 0, none⟩ = false ∧ wx.frozen? ⟨w.heap.size + 1, 1, none⟩ = false ∧ Ext w wx ∧ w.heap.size + 3 < wx.heap.size) (fun i _ => m - (intOf i).toNat)
      case atStart =>
        refine ⟨0, [], none, 0, Nat.zero_le _, rfl, Lib.hid rfl, HW2, Lib.hid (fun s hs => ⟨HA.out s hs, fun _ b o _ h => by cases h⟩), Lib.hid (World.ownsRow_nil _ _ _ _), Lib.hid (by simp), c0, c1, cf, d0, d1, r0, r1, f0, f1, e1, z1⟩
      case round =>
        clear c0 c1 cf d0 d1 r0 r1 f0 f1 e1 z1 z0 z2 z3 HW2 HA e0 hlt
        obtain ⟨j, ws, vA, vc, hj, rfl, HZ, HW, HA, HO, HX, c0, c1, cf, d0, d1, r0, r1, f0, f1, e1, z1⟩ := hrel
        have z0 : w.heap.size < wr.heap.size := by omega
        have z2 : w.heap.size + 1 < wr.heap.size := by omega
        have z3 : w.heap.size + 2 < wr.heap.size := by omega
        by_cases hlt : j < m
        · have hl : j < ys.length := by rw [← Hm.out]; omega
          obtain ⟨b1, o1, rfl, _, hb1, G0⟩ := rd_flat (size := 2) (fun _ => rfl) (by omega) b4 hl
          have hx : Wrt.At w 0 w.heap.size ys[j] := B5.out _ (List.getElem_mem _)
          have hx64 : ys[j].data.n ≤ 64 := H4.out _ (List.getElem_mem _)
          have HC := Lib.hid (fun w1 (e : Ext wr w1) => clone_any ys[j].data w1 (rd_sl hx.data (e1.trans e) (Nat.le_refl _)) (by omega))
          have HP := Lib.hid (And.intro hx.p0 hx.p1)
          have htk := Lib.hid (show (ys.take (j + 1)).map Wrt.abs = (ys.take j).map Wrt.abs ++ [ys[j].abs] by rw [List.take_succ_eq_append_getElem hl, List.map_append]; rfl)
          have G1 : wr.cell? ⟨b1, o1 + j * 2, none⟩ = some (.int .i64 ys[j].pos) := by rw [Below.cell e1 hb1]; simpa using G0 0 _ rfl
          have G2 : wr.cell? ⟨b1, o1 + j * 2 + 1, none⟩ = some ys[j].data.val := by rw [Below.cell e1 hb1]; simpa using G0 1 _ rfl
          clear hx hx64 G0
          generalize ys[j] = y at *
          obtain ⟨pos, yA, yn, yc, yx⟩ := y
          simp only [Sl.val] at G1 G2 HC HP
          have q0 : (0 : Int) ≤ j := by omega
          have q1 : (j : Int) < m := by omega
          go_wp2_with fail
          generalize hw1 : World.alloc wr _ = w1
          obtain ⟨e4, z4, G4⟩ := box_cells hw1
          have g0 := G4 0 _ rfl
          have g1 := G4 1 _ rfl
          have Z4 := Lib.hid z4
          clear hw1 G4 z4
          have r4 := Ext.refl w1
          have c1' : w1.cell? ⟨w.heap.size + 3, 1, none⟩ = some (.slice vA j vc) := by rw [Below.cell e4 z1]; exact c1
          obtain ⟨i0, hi0, hz0, hz1, hz2⟩ := info_parts infoW
          refine rgnE (S := fun w' => w'.cell? ⟨w.heap.size + 3, 1, none⟩ = some (.slice vA j vc) ∧ w'.cell? ⟨wr.heap.size, 0, none⟩ = some (.int .i64 pos) ∧ w'.cell? ⟨wr.heap.size, 1, none⟩ = some (.slice yA yn yc)) (by kernel_rfl) ⟨c1', g0 _ (by exact blo), g1 _ (by exact blo)⟩ (fun hHeld => ?_)
          refine eS 0 ?_; (try simp only [Act.put, lyA, lyB, lyC])
          refine eS 1 ?_; (try simp only [Act.put, lyA, lyB, lyC])
          refine eS 2 ?_; (try simp only [Act.put, lyA, lyB, lyC])
          refine eS 3 ?_; (try simp only [Act.put, lyA, lyB, lyC])
          refine eS 4 ?_; (try simp only [Act.put, lyA, lyB, lyC])
          refine eS 5 ?_; (try simp only [Act.put, lyA, lyB, lyC])
          refine oneE 6 rfl (by kernel_rfl) (by kernel_rfl) (fun K hK => ?_); (try go_simp)
          refine (HC.out _ (by exact blo)).mono ?_
          rintro e w2 ⟨s, rfl, hs, ho, e2⟩
          have HS := Lib.hid hs
          have e3 : Ext w1 w2 := by exact blo
          clear hs
          go_wp2_with fail
          refine hK.out _ _ ⟨by rw [Below.cell e3 (Nat.lt_of_lt_of_le z1 e4.size)]; exact c1', g0 _ e3, g1 _ e3⟩ (fun hHeld => ?_)
          clear hK K
          (try simp only [Act.put, lyA, lyB, lyC])
          refine eS 7 ?_; (try simp only [Act.put, lyA, lyB, lyC])
          refine oneE 8 rfl (by kernel_rfl) (by kernel_rfl) (fun K hK => ?_); (try go_simp)
          generalize hw3 : World.alloc w2 _ = w3
          have e5 : Ext w2 w3 := by rw [← hw3]; exact (Ext.refl _).alloc _
          have z5 : w3.heap.size = w2.heap.size + 1 := by rw [← hw3]; simp
          have HN : Hid (Rd w3 w2.heap.size w3.heap.size (some ⟨w2.heap.size, 0, none⟩) [.int .i64 pos, s.val]) := by
            subst hw3
            have := rd_new w2 #[.int .i64 pos, s.val] 114
            rw [Hid]
            simpa [Sl.val] using this
          have e6 : Ext w1 w3 := e3.trans e5
          have e7 : Ext wr w3 := e4.trans e6
          clear hw3
          refine hK.out _ _ ⟨by rw [Below.cell e7 z1]; exact c1, g0 _ e6, g1 _ e6⟩ (fun hHeld => ?_)
          clear hK K
          (try simp only [Act.put, lyA, lyB, lyC])
          refine oneE 9 rfl (by kernel_rfl) (by kernel_rfl) (fun K hK => ?_)
          have o3 := own_ext HO.out e7
          have l3 := fun g h => o3.lt g h
          refine wp_append_any w3 (.tmp 36) (.tmp 43) _ rfl (w.heap.size + 4) 114 i0 _ 2 32 Tryz.underlying23 hi0 hz0 hz1 hz2 rfl (by omega) (.slice vA j vc) j (ws.flatMap Wrt.cells) rfl o3 w2.heap.size w3.heap.size (some ⟨w2.heap.size, 0, none⟩) 1 1 [.int .i64 pos, s.val] rfl rfl HN.out
            (by intro u hu; simp only [List.mem_cons, List.not_mem_nil, or_false] at hu; rcases hu with rfl | rfl <;> rfl) (by unfold maxLen; omega) (by omega) (by have := e7.size; omega) ?_
          intro v4 w4 o4 hg hob
          have hob' : ∀ b, (Value.slice vA j vc).ownBlock = some b → w.heap.size + 4 ≤ b ∧ b < wr.heap.size := fun b hb => HO.out.lt b hb
          have hcell : ∀ p : Addr, p.block < w3.heap.size → (Value.slice vA j vc).ownBlock ≠ some p.block → w4.cell? p = w3.cell? p ∧ w4.frozen? p = w3.frozen? p := fun p hp hne =>
            ⟨World.cell?_of_block (hg.block p.block hp (fun e => hne e.symm)), World.frozen?_of_block (hg.block p.block hp (fun e => hne e.symm))⟩
          have hlow : ∀ p : Addr, p.block < w.heap.size + 4 → w4.cell? p = wr.cell? p ∧ w4.frozen? p = wr.frozen? p := fun p hp => by
            have h1 := hcell p (by have := e7.size; omega) (fun e => by have := hob' _ e; omega)
            exact ⟨h1.1.trans (Below.cell e7 (by omega)), h1.2.trans (Below.frozen e7 (by omega))⟩
          have hbox : ∀ p : Addr, p.block = wr.heap.size → w4.cell? p = w3.cell? p := fun p hp => (hcell p (by have := e6.size; have := Z4.out; omega) (fun e => by have := hob' _ e; omega)).1
          obtain ⟨vA4, vc4, rfl, _, _, _⟩ := own_form o4
          have hc4 : w4.cell? ⟨w.heap.size + 3, 1, none⟩ = some (.slice vA j vc) := by rw [(hlow _ (by simp)).1]; exact c1
          have hf4 : w4.frozen? ⟨w.heap.size + 3, 1, none⟩ = false := by rw [(hlow _ (by simp)).2]; exact cf
          refine hK.out _ _ ⟨hc4, by rw [hbox _ rfl]; exact g0 _ e6, by rw [hbox _ rfl]; exact g1 _ e6⟩ (fun hHeld => ?_)
          clear hK K
          (try simp only [Act.put, lyA, lyB, lyC])
          refine eS 10 ?_; (try simp only [Act.put, lyA, lyB, lyC])
          refine lastE 11 rfl (by kernel_rfl) (by kernel_rfl) (by kernel_rfl) (by kernel_rfl) (fun K hK => ?_); (try go_simp)
          refine hK.out _ _ ?_; clear hK K; (try simp only [Act.put, lyA, lyB, lyC])
          go_wp2_with fail
          go_roundw
          case rel =>
            have hp : ∀ (p : Addr) (u : Value), p.block < w.heap.size + 4 → p ≠ ⟨w.heap.size + 3, 1, none⟩ → (w4.setCell ⟨w.heap.size + 3, 1, none⟩ u).cell? p = wr.cell? p := fun p u hp hne =>
              (World.cell?_setCell_other w4 _ p _ (fun e => hne e.symm)).trans (hlow p hp).1
            have hf : ∀ (p : Addr) (u : Value), p.block < w.heap.size + 4 → (w4.setCell ⟨w.heap.size + 3, 1, none⟩ u).frozen? p = wr.frozen? p := fun p u hp => (World.frozen?_setCell _ _ _ _).trans (hlow p hp).2
            have hE : Ext w (w4.setCell ⟨w.heap.size + 3, 1, none⟩ (.slice vA4 (j + 1) vc4)) := by
              refine Ext.setCell (ext_grown (base := w.heap.size + 4) (by exact e1.trans e7) o3 hg (by omega)) (by simp) _
            have hsz : (w4.setCell ⟨w.heap.size + 3, 1, none⟩ (.slice vA4 (j + 1) vc4)).heap.size = w4.heap.size := by simp
            have hob4 : ∀ b, (Value.slice vA4 (j + 1) vc4).ownBlock = some b → (w.heap.size + 4 ≤ b ∧ b < wr.heap.size) ∨ b = w3.heap.size := fun b hb => by
              rcases hob with h | h
              · exact .inl (hob' b (by rw [← h]; exact hb))
              · rw [h] at hb; exact .inr (by injection hb with hb; exact hb.symm)
            have sz6 := e6.size
            have sz4 := e4.size
            have sz3 := e3.size
            have Zs := Z4.out
            have hsat : Oct.At w2 (wr.heap.size + 1) w2.heap.size s := Oct.At.low ho.at_ (by simp; omega)
            have keepO : ∀ x : Oct, Oct.At wr (w.heap.size + 4) wr.heap.size x → Ap (.slice vA j vc) x → Oct.At (w4.setCell ⟨w.heap.size + 3, 1, none⟩ (.slice vA4 (j + 1) vc4)) (w.heap.size + 4) (w4.setCell ⟨w.heap.size + 3, 1, none⟩ (.slice vA4 (j + 1) vc4)).heap.size x ∧ Ap (.slice vA4 (j + 1) vc4) x := fun x hx ha => by
              refine ⟨?_, ?_⟩
              · rw [hsz]
                exact Oct.At.set_low (Oct.At.grown (Oct.At.on hx e7 (Nat.le_refl _)) hg ha) (by show w.heap.size + 3 < w.heap.size + 4; omega) _
              · intro hn b o hA hb
                rcases hob with h | h
                · exact ha hn b o hA (by rw [← h]; exact hb)
                · rw [h] at hb
                  injection hb with hb
                  exact Ap.of_lt hx (v := .slice vA4 (j + 1) vc4) (fun b' hb' => by rw [h] at hb'; injection hb' with hb'; omega) hn b o hA (by rw [h, hb])
            have hnew : Oct.At (w4.setCell ⟨w.heap.size + 3, 1, none⟩ (.slice vA4 (j + 1) vc4)) (w.heap.size + 4) (w4.setCell ⟨w.heap.size + 3, 1, none⟩ (.slice vA4 (j + 1) vc4)).heap.size s ∧ Ap (.slice vA4 (j + 1) vc4) s := by
              refine ⟨?_, Ap.of_lt hsat fun b hb => ?_⟩
              · rw [hsz]
                exact Oct.At.set_low (Oct.At.grown (Oct.At.low (Oct.At.on hsat e5 (Nat.le_refl _)) (by omega)) hg (Ap.of_lt hsat fun b hb => by have := hob' b hb; omega)) (by show w.heap.size + 3 < w.heap.size + 4; omega) _
              · rcases hob4 b hb with h | h <;> omega
            refine ⟨j + 1, ws ++ [⟨pos, s⟩], vA4, vc4, by omega, by go_num, Lib.hid ?_, Lib.hid ?_, Lib.hid (fun x hx => keepO x (HA.out x hx).1 (HA.out x hx).2), Lib.hid ?_, Lib.hid ?_, by rw [hp _ _ (by simp) (by simp)]; exact c0, World.cell?_setCell_same _ _ _ hc4, by rw [hf _ _ (by simp)]; exact cf,
              by rw [hp _ _ (by simp) (by simp)]; exact d0, by rw [hp _ _ (by simp) (by simp)]; exact d1, by rw [hp _ _ (by simp) (by simp)]; exact r0, by rw [hp _ _ (by simp) (by simp)]; exact r1, by rw [hf _ _ (by simp)]; exact f0, by rw [hf _ _ (by simp)]; exact f1, hE, by rw [hsz]; have := hg.size; omega⟩
            · rw [List.map_append, HZ.out, htk.out, List.map_singleton]
              show _ ++ [(pos, s.xs)] = _ ++ [(pos, yx)]
              rw [HS.out]
            · have := ((HW.out.ext e7 (Nat.le_refl _)).grown_ne hg (Nat.le_refl _) (fun _ b o hA hb => by
                injection hA with hA
                injection hA with hA
                subst hA
                have := hob' _ hb
                omega)).else_ (p := ⟨w.heap.size + 3, 1, none⟩) (by show w.heap.size + 3 ≠ w.heap.size + 2; omega) (.slice vA4 (j + 1) vc4)
              exact this.more (Nat.le_refl _) (by rw [hsz]; exact hg.size)
            · have := own_set o4 (p := ⟨w.heap.size + 3, 1, none⟩) (by show w.heap.size + 3 < w.heap.size + 4; omega) (.slice vA4 (j + 1) vc4)
              rw [List.flatMap_append]
              simpa [Wrt.cells] using this
            · intro x hx
              rcases List.mem_append.1 hx with h | h
              · obtain ⟨h1, h2⟩ := HX.out x h
                obtain ⟨h3, h4⟩ := keepO x.data h1.data h2
                exact ⟨⟨h1.p0, h1.p1, h3⟩, h4⟩
              · simp only [List.mem_singleton] at h
                subst h
                exact ⟨⟨HP.out.1, HP.out.2, hnew.1⟩, hnew.2⟩
          case measure => simp [intOf]; omega
        · obtain rfl : j = m := by omega
          have HD := Lib.hid (show Dev.OwnAt wr w.heap.size (w.heap.size + 2) ⟨⟨some ⟨w.heap.size + 2, 0, none⟩, k, k, ss⟩, ⟨vA, j, vc, ws⟩⟩ from
            ⟨by omega, by omega, rfl, HL.out.symm, Nat.le_refl _, by unfold maxLen; show k ≤ _; omega, HW.out, fun s hs => ⟨Oct.At.low (HA.out s hs).1 (by omega), (HA.out s hs).2⟩, by
              have := congrArg List.length HZ.out
              rw [List.length_map, List.length_map, List.length_take] at this
              show j = ws.length
              have := Hm.out
              omega, own_lower HO.out (by omega), fun x hx => ⟨Wrt.At.imp (HX.out x hx).1 fun _ _ hr => hr.more (by omega) (Nat.le_refl _), (HX.out x hx).2⟩⟩)
          have HWV := Lib.hid (show ws.map Wrt.abs = ys.map Wrt.abs by rw [HZ.out, List.take_of_length_le (by rw [← Hm.out]; exact Nat.le_refl _)])
          go_wp2_with fail
          refine bodyPost_ret (v := .agg #[.slice (some ⟨w.heap.size + 2, 0, none⟩) k k, .slice vA j vc]) (by simp [results, Tryz.results62, go_sem, *]) rfl ⟨⟨⟨⟨some ⟨w.heap.size + 2, 0, none⟩, k, k, ss⟩, ⟨vA, j, vc, ws⟩⟩, w.heap.size + 2, rfl, HZ2.out, HWV.out, rfl, ?_⟩, by exact blo⟩
          exact (HD.out.set_low (p := ⟨w.heap.size + 1, 0, none⟩) (by show w.heap.size + 1 < w.heap.size + 2; omega) _).set_low (p := ⟨w.heap.size + 1, 1, none⟩) (by show w.heap.size + 1 < w.heap.size + 2; omega) _
end Go.Proofs.YtfongpdeflfioaaGreat
/- device.settle. -/
namespace Go.Proofs.YtfongpdeflfioaaGreat
open Go.RowKit
set_option linter.unusedSimpArgs false
set_option linter.unusedVariables false
def Nb (B : Nat) (s : Oct) : Prop := s.xs ≠ [] → ∀ b o, s.A = some ⟨b, o, none⟩ → b ≠ B
theorem Rd.set_ne {w : World} {lo hi : Nat} {A : Option Addr} {cs : List Value} (h : Rd w lo hi A cs) {p : Addr} (hr : cs ≠ [] → ∀ b o, A = some ⟨b, o, none⟩ → b ≠ p.block) (u : Value) : Rd (w.setCell p u) lo hi A cs := fun hn => by
  obtain ⟨b, o, e, h1, h2, h3⟩ := h hn
  exact ⟨b, o, e, h1, h2, fun j v hv => (World.cell?_setCell_other w p _ u (fun e' => hr hn b o e (by rw [e']))).trans (h3 j v hv)⟩
theorem Oct.At.set_ne {w : World} {lo hi : Nat} {s : Oct} (h : Oct.At w lo hi s) {p : Addr} (hr : Nb p.block s) (u : Value) : Oct.At (w.setCell p u) lo hi s :=
  ⟨h.len, h.le, h.cap, h.rd.set_ne (fun hn => hr (octs_ne hn)) u, h.all⟩
theorem own_set_ne {w : World} {base n : Nat} {v : Value} {e : TypeId} {size : Nat} {cs : List Value} (h : w.ownsRow base e size v n cs) {p : Addr} (hp : v.ownBlock ≠ some p.block) (u : Value) : (w.setCell p u).ownsRow base e size v n cs := by
  refine ⟨h.1, ?_⟩
  rcases h.2 with h' | ⟨g, cap, cur, h1, h2, h3, h4⟩
  · exact .inl h'
  · exact .inr ⟨g, cap, cur, h1, h2, (Below.heap_setCell _ _ _ _ (by rintro rfl; exact hp (by rw [h1]; rfl))).trans h3, h4⟩
structure Dev.OwnB (w : World) (lo g B : Nat) (d : Dev) : Prop where
  at_ : Dev.OwnAt w lo g d
  gB : g < B
  lt : B < w.heap.size
  c0 : w.cell? ⟨B, 0, none⟩ = some d.secs.val
  c1 : w.cell? ⟨B, 1, none⟩ = some d.waits.val
  f0 : w.frozen? ⟨B, 0, none⟩ = false
  f1 : w.frozen? ⟨B, 1, none⟩ = false
  secs : ∀ s ∈ d.secs.xs, Nb B s
  own : d.waits.val.ownBlock ≠ some B
  waits : ∀ x ∈ d.waits.xs, Nb B x.data
section
variable {w w' : World} {lo g B : Nat} {d : Dev}
theorem Dev.OwnB.ext (h : Dev.OwnB w lo g B d) (e : Ext w w') : Dev.OwnB w' lo g B d :=
  ⟨h.at_.ext e, h.gB, Nat.lt_of_lt_of_le h.lt e.size, (Below.cell e h.lt).trans h.c0, (Below.cell e h.lt).trans h.c1, (Below.frozen e h.lt).trans h.f0, (Below.frozen e h.lt).trans h.f1, h.secs, h.own, h.waits⟩
theorem Dev.OwnB.put (h : Dev.OwnB w lo g B d) {k : Nat} (hk : k < d.secs.xs.length) {s : Oct} (hs : Oct.At w (g + 1) w.heap.size s) (ha : Ap d.waits.val s) (hn : Nb B s) :
    Dev.OwnB (w.setCell ⟨g, k, none⟩ s.val) lo g B ⟨⟨d.secs.A, d.secs.n, d.secs.c, d.secs.xs.set k s⟩, d.waits⟩ := by
  have hsz : (w.setCell ⟨g, k, none⟩ s.val).heap.size = w.heap.size := by simp
  have hne : g ≠ B := by have := h.gB; omega
  have keep : ∀ x : Oct, Oct.At w (g + 1) w.heap.size x → Oct.At (w.setCell ⟨g, k, none⟩ s.val) (g + 1) (w.setCell ⟨g, k, none⟩ s.val).heap.size x := fun x hx => by rw [hsz]; exact Oct.At.set_low hx (Nat.lt_succ_self g) _
  refine ⟨⟨h.at_.lo_g, by rw [hsz]; exact h.at_.g_lt, h.at_.secA, by rw [List.length_set]; exact h.at_.secn, h.at_.secc, h.at_.secm, ?_, fun x hx => ?_, h.at_.wn, own_set h.at_.own (Nat.lt_succ_self g) _,
    fun x hx => ⟨⟨(h.at_.waits x hx).1.p0, (h.at_.waits x hx).1.p1, keep _ (h.at_.waits x hx).1.data⟩, (h.at_.waits x hx).2⟩⟩, h.gB, by rw [hsz]; exact h.lt,
    (World.cell?_setCell_other _ _ _ _ (fun e => hne (by injection e))).trans h.c0, (World.cell?_setCell_other _ _ _ _ (fun e => hne (by injection e))).trans h.c1, (World.frozen?_setCell _ _ _ _).trans h.f0, (World.frozen?_setCell _ _ _ _).trans h.f1, fun x hx => ?_, h.own, h.waits⟩
  · rw [hsz]
    have := h.at_.row.set (k := k) (by rw [List.length_map]; exact hk) s.val
    rw [Nat.zero_add] at this
    simpa [List.map_set] using this
  · rcases List.mem_or_eq_of_mem_set hx with h' | rfl
    · exact ⟨keep x (h.at_.secs x h').1, (h.at_.secs x h').2⟩
    · exact ⟨keep x hs, ha⟩
  · rcases List.mem_or_eq_of_mem_set hx with h' | rfl
    · exact h.secs x h'
    · exact hn
theorem Dev.OwnB.clear (h : Dev.OwnB w lo g B d) : Dev.OwnB (w.setCell ⟨B, 1, none⟩ (.slice none 0 0)) lo g B ⟨d.secs, ⟨none, 0, 0, []⟩⟩ := by
  have hsz : (w.setCell ⟨B, 1, none⟩ (.slice none 0 0)).heap.size = w.heap.size := by simp
  have hne : g ≠ B := by have := h.gB; omega
  exact ⟨⟨h.at_.lo_g, by rw [hsz]; exact h.at_.g_lt, h.at_.secA, h.at_.secn, h.at_.secc, h.at_.secm, by rw [hsz]; exact h.at_.row.else_ (p := ⟨B, 1, none⟩) hne.symm _,
    fun s hs => ⟨by rw [hsz]; exact Oct.At.set_ne (h.at_.secs s hs).1 (h.secs s hs) _, (fun _ b o _ e => by cases e)⟩, rfl, World.ownsRow_nil _ _ _ _, (fun x hx => by simp at hx)⟩,
    h.gB, by rw [hsz]; exact h.lt, (World.cell?_setCell_other _ _ _ _ (fun e => by injection e with _ e2; omega)).trans h.c0, World.cell?_setCell_same _ _ _ h.c1, (World.frozen?_setCell _ _ _ _).trans h.f0, (World.frozen?_setCell _ _ _ _).trans h.f1, h.secs, (fun e => by cases e), (fun x hx => by simp at hx)⟩
end
def setU (kp : Nat → Bool) (ws : List Wrt) (ss : List Oct) : Nat → List Oct
  | 0 => ss
  | k + 1 => match ws[k]? with
    | some x => if kp k then (setU kp ws ss k).set x.pos.toNat x.data else setU kp ws ss k
    | none => setU kp ws ss k
theorem setU_length (kp : Nat → Bool) (ws : List Wrt) (ss : List Oct) : ∀ k, (setU kp ws ss k).length = ss.length
  | 0 => rfl
  | k + 1 => by
    unfold setU
    split
    · split
      · rw [List.length_set, setU_length]
      · exact setU_length kp ws ss k
    · exact setU_length kp ws ss k
set_option maxRecDepth 100000 in
set_option maxHeartbeats 2000000 in
theorem settle_any (d : Dev) (w : World) (lo g B : Nat) (h : Dev.OwnB w lo g B d) (hpos : ∀ x ∈ d.waits.xs, 0 ≤ x.pos ∧ x.pos < (d.secs.n : Int)) (kp : Nat → Bool) (F : Value) (f : FuncId) (caps : Array Value) (hf : F = .func (.func f) #[] caps)
    (hcf : ∀ args w, (callFunc f args).run Tryz.prog w = .ok (.enter f args) w) (hF : ∀ i, i < d.waits.n → ∀ w1, Below lo w w1 → Calls Tryz.prog f (#[.int .i64 (i : Int)] ++ caps) w1 fun e w' => e = .returned (.bool (kp i)) ∧ Ext w1 w') :
    Calls Tryz.prog 63 #[.pointer (some ⟨B, 0, none⟩), F] w fun e w' => e = .returned (.tuple #[]) ∧ Dev.OwnB w' lo g B ⟨⟨d.secs.A, d.secs.n, d.secs.c, setU kp d.waits.xs d.secs.xs d.waits.n⟩, ⟨none, 0, 0, []⟩⟩ ∧ Below lo w w' := by
  subst hf
  have HF := Lib.hid hF
  have HP := Lib.hid hpos
  have H := Lib.hid h
  have hlg := h.at_.lo_g
  have hB := h.gB
  have Hwn := Lib.hid h.at_.wn
  have c1 := h.c1
  clear hF hpos h
  obtain ⟨⟨A, n, c, xs⟩, ⟨vA, m, vc, ws⟩⟩ := d
  simp only [Sl.val] at c1
  have hm : m ≤ 9223372036854775807 := by
    obtain ⟨_, h2, h3⟩ := own_le H.out.at_.own rfl
    have h4 : m ≤ maxLen := Nat.le_trans h2 h3
    exact h4
  go_enter Tryz.func63, Tryz.ntmps63
  go_wp2_with fail
  go_loopw [11] (fun i wr => ∃ k : Nat, k ≤ m ∧ i = .int .i64 k ∧ Hid (Dev.OwnB wr lo g B ⟨⟨A, n, c, setU kp ws xs k⟩, ⟨vA, m, vc, ws⟩⟩) ∧ Below lo w wr) (fun i _ => m - (intOf i).toNat)
  case atStart => exact ⟨0, Nat.zero_le _, rfl, H, Below.refl _ _⟩
  case round =>
    obtain ⟨k, hk, rfl, HD, e1⟩ := hrel
    by_cases hlt : k < m
    · have hl : k < ws.length := by rw [← Hwn.out]; exact hlt
      obtain ⟨b1, o1, rfl, _, hb1, G0⟩ := rd_flat (size := 2) (fun _ => rfl) (by omega) HD.out.at_.at_.waits.rd hl
      have HX := Lib.hid (HD.out.at_.waits ws[k] (List.getElem_mem _))
      have HN := Lib.hid (HD.out.waits ws[k] (List.getElem_mem _))
      have HQ := Lib.hid (HP.out ws[k] (List.getElem_mem _))
      have HC := Lib.hid (fun w1 (e : Ext wr w1) => HF.out k hlt w1 (e1.trans (Below.mono e (by have := HD.out.lt; omega))))
      have hsU := Lib.hid (show setU kp ws xs (k + 1) = if kp k then (setU kp ws xs k).set ws[k].pos.toNat ws[k].data else setU kp ws xs k by rw [setU, List.getElem?_eq_getElem hl])
      have G1 : wr.cell? ⟨b1, o1 + k * 2, none⟩ = some (.int .i64 ws[k].pos) := by simpa using G0 0 _ rfl
      have G2 : wr.cell? ⟨b1, o1 + k * 2 + 1, none⟩ = some ws[k].data.val := by simpa using G0 1 _ rfl
      clear G0
      generalize ws[k] = y at *
      obtain ⟨pos, s⟩ := y
      obtain ⟨sA, sn, sc, hsv⟩ : ∃ A n c, s.val = .slice A n c := ⟨_, _, _, rfl⟩
      have HV := Lib.hid hsv
      simp only [hsv] at G2
      clear hsv
      have c0' : wr.cell? ⟨B, 0, none⟩ = some (.slice A n c) := HD.out.c0
      have q0 : (0 : Int) ≤ k := by omega
      have q1 : (k : Int) < m := by omega
      have hBl := HD.out.lt
      go_wp2_with fail
      generalize hw1 : World.alloc wr _ = w1
      obtain ⟨e4, z4, G4⟩ := box_cells hw1
      have g0 := G4 0 _ rfl
      have g1 := G4 1 _ rfl
      have Z4 := Lib.hid z4
      clear hw1 G4 z4
      have r4 := Ext.refl w1
      refine (HC.out _ (by exact blo)).mono ?_
      rintro e w2 ⟨rfl, e2⟩
      have e5 : Ext w1 w2 := by exact blo
      have e6 : Ext wr w2 := e4.trans e5
      have HD2 := Lib.hid (HD.out.ext e6)
      have HX2 := Lib.hid (Wrt.At.imp HX.out.1 (rd_on e6 (Nat.le_refl _)))
      have e7 : Below lo w w2 := e1.trans (Below.mono e6 (by omega))
      cases hkp : kp k
      · have hsU2 := Lib.hid (show setU kp ws xs (k + 1) = setU kp ws xs k by rw [hsU.out, hkp]; simp)
        go_wp2_with fail
        go_roundw
        case rel => exact ⟨k + 1, by omega, by go_num, Lib.hid (by rw [hsU2.out]; exact HD2.out), e7⟩
        case measure => simp [intOf]; omega
      · have hsU2 := Lib.hid (show setU kp ws xs (k + 1) = (setU kp ws xs k).set pos.toNat s by rw [hsU.out, hkp]; simp)
        have c0'' : w2.cell? ⟨B, 0, none⟩ = some (.slice A n c) := HD2.out.c0
        obtain ⟨p0, p1⟩ := HQ.out
        have hA2 : A = some ⟨g, 0, none⟩ := HD.out.at_.secA
        subst hA2
        have hn : n = xs.length := by have := HD.out.at_.secn; rw [setU_length] at this; exact this
        obtain ⟨pn, rfl⟩ : ∃ pn : Nat, pos = (pn : Int) := ⟨pos.toNat, by omega⟩
        have p1' : pn < n := by omega
        have p2 : (0 : Int) ≤ (pn : Int) := by omega
        have p3 : (pn : Int) < (n : Int) := by omega
        obtain ⟨s1, s2⟩ := HD2.out.at_.row.cell (k := pn) (List.getElem?_eq_getElem (by rw [List.length_map, setU_length, ← hn]; exact p1'))
        rw [Nat.zero_add] at s1 s2
        generalize (List.map Sl.val _)[pn]'_ = ov at s1
        clear p0 p1
        have Hn2 := Lib.hid hn
        clear hn
        go_wp2_with fail
        refine rgnE (S := fun w' => w'.cell? ⟨B, 0, none⟩ = some (.slice (some ⟨g, 0, none⟩) n c) ∧ w'.cell? ⟨wr.heap.size, 0, none⟩ = some (.int .i64 (pn : Int)) ∧ w'.cell? ⟨wr.heap.size, 1, none⟩ = some (.slice sA sn sc)) (by kernel_rfl) ⟨c0'', g0 _ (by exact blo), g1 _ (by exact blo)⟩ (fun hHeld => ?_)
        refine eS 0 ?_; (try simp only [Act.put, lyA, lyB, lyC])
        refine eS 1 ?_; (try simp only [Act.put, lyA, lyB, lyC])
        refine eS 2 ?_; (try simp only [Act.put, lyA, lyB, lyC])
        refine eS 3 ?_; (try simp only [Act.put, lyA, lyB, lyC])
        refine eS 4 ?_; (try simp only [Act.put, lyA, lyB, lyC])
        refine eS 5 ?_; (try simp only [Act.put, lyA, lyB, lyC])
        refine eS 6 ?_; (try simp only [Act.put, lyA, lyB, lyC])
        refine eS 7 ?_; (try simp only [Act.put, lyA, lyB, lyC])
        refine eS 8 ?_; (try simp only [Act.put, lyA, lyB, lyC])
        refine lastE 9 rfl (by kernel_rfl) (by kernel_rfl) (by kernel_rfl) (by kernel_rfl) (fun K hK => ?_); (try go_simp)
        refine hK.out _ _ ?_; clear hK K; (try simp only [Act.put, lyA, lyB, lyC])
        go_wp2_with fail
        go_roundw
        case rel =>
          refine ⟨k + 1, by omega, by go_num, Lib.hid ?_, ?_⟩
          · rw [hsU2.out, ← HV.out]
            have := HD2.out.put (k := pn) (by show pn < (setU kp ws xs k).length; rw [setU_length, ← Hn2.out]; exact p1') HX2.out.data HX.out.2 HN.out
            have h9 := this.ext ((Ext.refl _).drew)
            simpa using h9
          · rw [← HV.out]; exact (e7.setCell (p := ⟨g, pn, none⟩) hlg _).drew
        case measure => simp [intOf]; omega
    · obtain rfl : k = m := by omega
      have f1' : wr.frozen? ⟨B, 1, none⟩ = false := HD.out.f1
      have c1' : wr.cell? ⟨B, 1, none⟩ = some (.slice vA k vc) := HD.out.c1
      have hBl := HD.out.lt
      go_wp2_with fail
      go_end0
      exact ⟨rfl, HD.out.clear, e1.setCell (p := ⟨B, 1, none⟩) (by show lo ≤ B; omega) _⟩
end Go.Proofs.YtfongpdeflfioaaGreat
/- device.fault; a write put behind those that wait; plain laws of devices. -/
namespace Go.Proofs.YtfongpdeflfioaaGreat
open Go.RowKit
set_option linter.unusedSimpArgs false
set_option linter.unusedVariables false
structure Ac where
  flush : Bool
  pos : Int
  data : Oct
def Ac.cells (x : Ac) : List Value := [.bool x.flush, .int .i64 x.pos, x.data.val]
structure Ac.At (w : World) (lo hi : Nat) (x : Ac) : Prop where
  p0 : -9223372036854775808 ≤ x.pos
  p1 : x.pos ≤ 9223372036854775807
  data : Oct.At w lo hi x.data
def faultE (n : Nat) (a : Ac) : Int := if a.flush = true then 0 else if a.pos < 0 ∨ (n : Int) ≤ a.pos then 4 else if a.data.n = 64 then 0 else 5
set_option maxHeartbeats 1000000 in
theorem fault_any (d : Dev) (a : Ac) (w : World) (hn : d.secs.n ≤ 9223372036854775807) (p0 : -9223372036854775808 ≤ a.pos) (p1 : a.pos ≤ 9223372036854775807) (hd : a.data.n ≤ 9223372036854775807) :
    Calls Tryz.prog 61 #[.agg d.cells.toArray, .agg a.cells.toArray] w fun e w' => e = .returned (.int .i64 (faultE d.secs.n a)) ∧ Ext w w' := by
  have H := Lib.hid (fun w1 => odd_any a.data w1 hd)
  have ho : Hid (oddO a.data = !decide (a.data.n = 64)) := Lib.hid (by rw [oddO, Bool.eq_iff_iff]; simp)
  have hv := Lib.hid (show faultE d.secs.n a = if a.flush = true then 0 else if a.pos < 0 ∨ (d.secs.n : Int) ≤ a.pos then 4 else if a.data.n = 64 then 0 else 5 from rfl)
  generalize faultE d.secs.n a = v at *
  generalize oddO a.data = od at *
  obtain ⟨⟨A, n, c, xs⟩, ⟨B, m, k, ys⟩⟩ := d
  obtain ⟨fl, pos, ⟨aA, an, ac, ax⟩⟩ := a
  simp only [Dev.cells, Ac.cells, Sl.val] at *
  have hcase : fl = true ∨ (fl = false ∧ pos < 0) ∨ (fl = false ∧ 0 ≤ pos ∧ (n : Int) ≤ pos) ∨ (fl = false ∧ 0 ≤ pos ∧ pos < (n : Int)) := by cases fl <;> simp <;> omega
  rcases hcase with q0 | ⟨q0, q1⟩ | ⟨q0, q1, q2⟩ | ⟨q0, q1, q2⟩
  all_goals
    subst q0
    go_enter Tryz.func61, Tryz.ntmps61
    go_wp2_with (go_at_call 84; refine (H.out _).mono ?_; rintro e w2 ⟨rfl, e2⟩)
    all_goals (go_ret; refine ⟨retI ?_, by exact blo⟩; rw [hv.out]; try (first | (simp [*]; done) | (simp [*]; omega) | (rw [if_neg (by simp), if_neg (by omega)]; have h9 := ho.out; subst h9; simp_all; done)))
section
variable {w w' : World} {lo g B : Nat} {d : Dev}
theorem Dev.OwnB.push (h : Dev.OwnB w lo g B d) {pos : Int} (hp0 : -9223372036854775808 ≤ pos) (hp1 : pos ≤ 9223372036854775807) {s : Oct} (hs : Oct.At w (g + 1) w.heap.size s) (ha : Ap d.waits.val s) (hn : Nb B s) {A4 : Option Addr} {c4 : Nat}
    (o4 : w'.ownsRow (g + 1) 114 2 (.slice A4 (d.waits.n + 1) c4) (d.waits.n + 1) (d.waits.xs.flatMap Wrt.cells ++ [.int .i64 pos, s.val])) (hg : w.grownBy w' d.waits.val.ownBlock)
    (hob : (Value.slice A4 (d.waits.n + 1) c4).ownBlock = d.waits.val.ownBlock ∨ (Value.slice A4 (d.waits.n + 1) c4).ownBlock = some w.heap.size) :
    Dev.OwnB (w'.setCell ⟨B, 1, none⟩ (.slice A4 (d.waits.n + 1) c4)) lo g B ⟨d.secs, ⟨A4, d.waits.n + 1, c4, d.waits.xs ++ [⟨pos, s⟩]⟩⟩ := by
  have hsz : (w'.setCell ⟨B, 1, none⟩ (.slice A4 (d.waits.n + 1) c4)).heap.size = w'.heap.size := by simp
  have hgB := h.gB
  have hlt := h.lt
  have hbB := hg.block B hlt (fun e => h.own e.symm)
  have hbv : ∀ b, d.waits.val.ownBlock = some b → g + 1 ≤ b ∧ b < w.heap.size := fun b hb => h.at_.own.lt b hb
  have ap4 : ∀ x : Oct, Oct.At w (g + 1) w.heap.size x → Ap d.waits.val x → Ap (.slice A4 (d.waits.n + 1) c4) x := fun x hx hap hne b o hA hb => by
    rcases hob with h' | h'
    · exact hap hne b o hA (by rw [← h']; exact hb)
    · rw [h'] at hb
      injection hb with hb
      exact Ap.of_lt hx (v := .slice A4 (d.waits.n + 1) c4) (fun b' hb' => by rw [h'] at hb'; injection hb' with hb'; omega) hne b o hA (by rw [h', hb])
  have keep : ∀ x : Oct, Oct.At w (g + 1) w.heap.size x → Ap d.waits.val x → Nb B x → Oct.At (w'.setCell ⟨B, 1, none⟩ (.slice A4 (d.waits.n + 1) c4)) (g + 1) (w'.setCell ⟨B, 1, none⟩ (.slice A4 (d.waits.n + 1) c4)).heap.size x := fun x hx hap hnb => by
    rw [hsz]
    exact Oct.At.set_ne (Oct.At.grown hx hg hap) hnb _
  have hown4 : (Value.slice A4 (d.waits.n + 1) c4).ownBlock ≠ some B := fun e => by
    rcases hob with h' | h'
    · exact h.own (by rw [← h']; exact e)
    · rw [h'] at e; injection e with e; omega
  refine ⟨⟨h.at_.lo_g, by rw [hsz]; exact Nat.lt_of_lt_of_le h.at_.g_lt hg.size, h.at_.secA, h.at_.secn, h.at_.secc, h.at_.secm, ?_, fun x hx => ⟨keep x (h.at_.secs x hx).1 (h.at_.secs x hx).2 (h.secs x hx), ap4 x (h.at_.secs x hx).1 (h.at_.secs x hx).2⟩,
      by show d.waits.n + 1 = _; rw [List.length_append, h.at_.wn]; rfl, ?_, fun x hx => ?_⟩, h.gB, by rw [hsz]; exact Nat.lt_of_lt_of_le h.lt hg.size,
    (World.cell?_setCell_other _ _ _ _ (fun e => by injection e with _ e2; omega)).trans ((World.cell?_of_block hbB).trans h.c0), World.cell?_setCell_same _ _ _ ((World.cell?_of_block hbB).trans h.c1),
    (World.frozen?_setCell _ _ _ _).trans ((World.frozen?_of_block hbB).trans h.f0), (World.frozen?_setCell _ _ _ _).trans ((World.frozen?_of_block hbB).trans h.f1), h.secs, hown4, fun x hx => ?_⟩
  · rw [hsz]
    exact ((h.at_.row.grown_ne hg (Nat.le_refl _) (fun _ b o hA hb => by
      injection hA with hA
      injection hA with hA
      have := hbv _ hb
      omega)).else_ (p := ⟨B, 1, none⟩) (by show B ≠ g; omega) _).more (Nat.le_refl _) hg.size
  · have := own_set_ne o4 (p := ⟨B, 1, none⟩) hown4 (.slice A4 (d.waits.n + 1) c4)
    show World.ownsRow _ _ _ _ (.slice A4 (d.waits.n + 1) c4) _ ((d.waits.xs ++ [(⟨pos, s⟩ : Wrt)]).flatMap Wrt.cells)
    rw [List.flatMap_append]
    simpa [Wrt.cells] using this
  · rcases List.mem_append.1 hx with h' | h'
    · exact ⟨⟨(h.at_.waits x h').1.p0, (h.at_.waits x h').1.p1, keep _ (h.at_.waits x h').1.data (h.at_.waits x h').2 (h.waits x h')⟩, ap4 _ (h.at_.waits x h').1.data (h.at_.waits x h').2⟩
    · simp only [List.mem_singleton] at h'
      subst h'
      exact ⟨⟨hp0, hp1, keep s hs ha hn⟩, ap4 s hs ha⟩
  · rcases List.mem_append.1 hx with h' | h'
    · exact h.waits x h'
    · simp only [List.mem_singleton] at h'
      subst h'
      exact hn
end
end Go.Proofs.YtfongpdeflfioaaGreat
