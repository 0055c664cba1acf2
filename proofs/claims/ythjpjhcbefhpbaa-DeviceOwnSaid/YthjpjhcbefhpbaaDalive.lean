/- small, right, alive. -/
import Derived.Test.YthjpjhcbefhpbaaDabs
namespace Go.Proofs.Ythjpjhcbefhpbaa
open Go.RowKit
set_option linter.unusedSimpArgs false
set_option linter.unusedVariables false

theorem num_any (w : World) (n : Int) : Calls Try.prog 12 #[.int .i64 n] w fun e w' => e = .returned (.int .i64 n) ∧ w = w' := by
  go_enter Try.func12, Try.ntmps12
  go_wp2
  go_ret
  exact ⟨rfl, rfl⟩
theorem mk64 : ∀ u, (Instr.makeSlice 34 (.int .i64 64) (.int .i64 64)).run Try.prog u = .ok (.slice (some ⟨u.heap.size, 0, none⟩) 64 64) (u.alloc (.cells (bytes (zeros 64)).toArray 5)) := fun u => mk_bytes 64 (by omega) u
/-- an act in a row of its own -/
theorem acs_one {w w' : World} {a : Ac} (hw : w.alloc (.cells a.cells.toArray 36) = w') (ha : Ac.At w 0 w.heap.size a) : Acs w' (some ⟨w.heap.size, 0, none⟩) 1 1 [a] := by
  have e : Ext w w' := by rw [← hw]; exact (Ext.refl _).alloc _
  refine ⟨rfl, by omega, ?_, fun x hx => ?_⟩
  · subst hw
    have := rd_new w a.cells.toArray 36
    simpa using this.more (Nat.zero_le _) (Nat.le_refl _)
  · simp only [List.mem_singleton] at hx
    subst hx
    exact ⟨ha.p0, ha.p1, Oct.At.on ha.data e (Nat.le_refl _)⟩
/-- a struct of two cells put into a variable -/
theorem put2 {w w' : World} {b : Nat} {v0 v1 u0 u1 : Value} (hw : (w.setCell ⟨b, 0, none⟩ v0).setCell ⟨b, 1, none⟩ v1 = w') (c0 : w.cell? ⟨b, 0, none⟩ = some u0) (c1 : w.cell? ⟨b, 1, none⟩ = some u1) (f0 : w.frozen? ⟨b, 0, none⟩ = false) (f1 : w.frozen? ⟨b, 1, none⟩ = false) :
    w'.cell? ⟨b, 0, none⟩ = some v0 ∧ w'.cell? ⟨b, 1, none⟩ = some v1 ∧ w'.frozen? ⟨b, 0, none⟩ = false ∧ w'.frozen? ⟨b, 1, none⟩ = false ∧ w'.heap.size = w.heap.size := by
  subst hw
  exact ⟨(World.cell?_setCell_other _ _ _ _ (by simp)).trans (World.cell?_setCell_same _ _ _ c0), World.cell?_setCell_same _ _ _ ((World.cell?_setCell_other _ _ _ _ (by simp)).trans c1), (World.frozen?_setCell _ _ _ _).trans ((World.frozen?_setCell _ _ _ _).trans f0), (World.frozen?_setCell _ _ _ _).trans ((World.frozen?_setCell _ _ _ _).trans f1), by simp⟩
theorem put2_at {w w' : World} {b lo hi : Nat} {v0 v1 : Value} (hw : (w.setCell ⟨b, 0, none⟩ v0).setCell ⟨b, 1, none⟩ v1 = w') {d : Dev} (h : Dev.At w lo hi d) (hb : b < lo) : Dev.At w' lo hi d := by
  subst hw
  exact (h.set_low (p := ⟨b, 0, none⟩) hb _).set_low (p := ⟨b, 1, none⟩) hb _
theorem put2_ext {w0 w w' : World} {b : Nat} {v0 v1 : Value} (hw : (w.setCell ⟨b, 0, none⟩ v0).setCell ⟨b, 1, none⟩ v1 = w') (h : Ext w0 w) (hb : w0.heap.size ≤ b) : Ext w0 w' := by
  subst hw
  exact (h.setCell (p := ⟨b, 0, none⟩) hb _).setCell (p := ⟨b, 1, none⟩) hb _
set_option maxRecDepth 100000 in
set_option maxHeartbeats 4000000 in
theorem alive_any (w : World) : Calls Try.prog 7 #[] w fun e w' => e = .returned (.bool true) ∧ Ext w w' := by
  have k2 := mk64
  have H9 : ∀ w1, Calls Try.prog 9 #[.int .i64 3] w1 fun e w' => DevR w1 (List.replicate 3 (zeros 64)) [] e w' ∧ Ext w1 w' := fun w1 => new_abs w1 3 (by omega) (by omega)
  have H9 := Lib.hid H9
  go_enter Try.func7, Try.ntmps7
  go_wp2_with fail
  refine (H9.out _).mono ?_
  rintro e w1 ⟨⟨d, rfl, hs, hw, hd⟩, e1⟩
  have ok1 : okV d.secv d.wv := by rw [hs, hw]; exact new_ok 3 (by omega) (by omega)
  have HO1 := Lib.hid ok1
  have HS1 := Lib.hid hs
  have HW1 := Lib.hid hw
  have HD1 := Lib.hid hd
  clear hs hw hd ok1
  obtain ⟨⟨A1, n1, c1, xs1⟩, ⟨B1, m1, l1, ys1⟩⟩ := d
  simp only [Dev.cells, Sl.val]
  go_upto_region 3 with (fail)
  generalize hw2 : World.alloc w1 _ = w2
  obtain ⟨e2, z2, G2⟩ := box_cells hw2
  have F2 := frozen_new hw2
  clear hw2
  generalize hw3 : World.alloc w2 _ = w3
  have hR3 : Wr w3 w2.heap.size w3.heap.size (some ⟨w2.heap.size, 0, none⟩) (bytes (zeros 64)) := by
    rw [← hw3]
    simpa using Wr.new w2 (bytes (zeros 64)).toArray 5
  have e3 : Ext w2 w3 := by rw [← hw3]; exact (Ext.refl _).alloc _
  have z3 : w3.heap.size = w2.heap.size + 1 := by rw [← hw3]; simp
  clear hw3
  rw [z2] at hR3 z3
  obtain ⟨g0, gf⟩ := hR3.cell (k := 0) (u := .int .u8 0) (by simp [bytes, zeros])
  simp only [Nat.add_zero] at g0 gf
  have b0 : w3.cell? ⟨w1.heap.size, 0, none⟩ = some (.slice A1 n1 c1) := G2 0 _ rfl _ e3
  have b1 : w3.cell? ⟨w1.heap.size, 1, none⟩ = some (.slice B1 m1 l1) := G2 1 _ rfl _ e3
  have f0 := F2 0 _ e3
  have f1 := F2 1 _ e3
  have HR3 := Lib.hid hR3
  have x3 : Ext w w3 := e1.trans (e2.trans e3)
  have X13 := Lib.hid (e2.trans e3)
  have zw : w.heap.size ≤ w1.heap.size := e1.size
  have HZ := Lib.hid z3
  clear G2 F2 e2 e3 z2 hR3 z3 e1
  go_wp2_with fail
  generalize hw4 : World.setCell w3 _ _ = w4
  have x14 : Ext w1 w4 := by rw [← hw4]; exact X13.out.setCell (p := ⟨w1.heap.size + 1, 0, none⟩) (by show w1.heap.size ≤ w1.heap.size + 1; omega) _
  have z4 : w4.heap.size = w1.heap.size + 2 := by rw [← hw4]; simp [HZ.out]
  have HR4 := Lib.hid (show Wr w4 (w1.heap.size + 1) w4.heap.size (some ⟨w1.heap.size + 1, 0, none⟩) (bytes ((zeros 64).set 0 1)) by
    have h := HR3.out.set (k := 0) (by rw [bytes_length]; simp [zeros]) (.int .u8 1)
    have h2 : (bytes (zeros 64)).set 0 (.int .u8 1) = bytes ((zeros 64).set 0 1) := by simp [bytes, List.map_set]
    rw [h2, Nat.add_zero, hw4] at h
    exact h.more (Nat.le_refl _) (by rw [z4, HZ.out]; omega))
  have c0 : w4.cell? ⟨w1.heap.size, 0, none⟩ = some (.slice A1 n1 c1) := by rw [← hw4]; exact (World.cell?_setCell_other _ _ _ _ (by simp)).trans b0
  have c1' : w4.cell? ⟨w1.heap.size, 1, none⟩ = some (.slice B1 m1 l1) := by rw [← hw4]; exact (World.cell?_setCell_other _ _ _ _ (by simp)).trans b1
  have h0 : w4.frozen? ⟨w1.heap.size, 0, none⟩ = false := by rw [← hw4]; exact (World.frozen?_setCell _ _ _ _).trans f0
  have h1 : w4.frozen? ⟨w1.heap.size, 1, none⟩ = false := by rw [← hw4]; exact (World.frozen?_setCell _ _ _ _).trans f1
  have hz3 := HZ.out
  have x4 : Ext w w4 := by rw [← hw4]; exact x3.setCell (p := ⟨w1.heap.size + 1, 0, none⟩) (by show w.heap.size ≤ w1.heap.size + 1; omega) _
  have hs34 : w3.heap.size = w4.heap.size := by rw [← hw4]; simp
  clear hw4 b0 b1 f0 f1 g0 gf x3
  rw [hs34]
  have BX := Lib.hid (fun w' (e : Ext w4 w') => show w'.cell? ⟨w1.heap.size, 0, none⟩ = some (.slice A1 n1 c1) ∧ w'.cell? ⟨w1.heap.size, 1, none⟩ = some (.slice B1 m1 l1) ∧ w'.frozen? ⟨w1.heap.size, 0, none⟩ = false ∧ w'.frozen? ⟨w1.heap.size, 1, none⟩ = false ∧ w1.heap.size < w'.heap.size from
    ⟨(Below.cell (p := ⟨w1.heap.size, 0, none⟩) e (by show w1.heap.size < w4.heap.size; omega)).trans c0, (Below.cell (p := ⟨w1.heap.size, 1, none⟩) e (by show w1.heap.size < w4.heap.size; omega)).trans c1', (Below.frozen (p := ⟨w1.heap.size, 0, none⟩) e (by show w1.heap.size < w4.heap.size; omega)).trans h0,
      (Below.frozen (p := ⟨w1.heap.size, 1, none⟩) e (by show w1.heap.size < w4.heap.size; omega)).trans h1, by have := e.size; omega⟩)
  clear c0 c1' h0 h1 hz3 hs34
  have Z4 := Lib.hid z4
  clear z4
  generalize hw5 : World.alloc w4 _ = w5
  have e5 : Ext w4 w5 := by rw [← hw5]; exact (Ext.refl _).alloc _
  have HA := Lib.hid (acs_one (a := ⟨false, 1, ⟨some ⟨w1.heap.size + 1, 0, none⟩, 64, 64, (zeros 64).set 0 1⟩⟩) (w' := w5) (by simpa [Ac.cells, Sl.val] using hw5) ⟨by show (-9223372036854775808 : Int) ≤ 1; omega, by show (1 : Int) ≤ 9223372036854775807; omega, ⟨by simp [zeros], Nat.le_refl _, by simp [maxLen], by rw [octs_flat]; exact HR4.out.rd.more (Nat.zero_le _) (Nat.le_refl _), fun _ _ => trivial⟩⟩)
  clear hw5
  refine (do_abs ⟨⟨A1, n1, c1, xs1⟩, ⟨B1, m1, l1, ys1⟩⟩ w5 ((HD1.out.on (x14.trans e5) (Nat.le_refl _)).low (Nat.zero_le _)) HO1.out _ 1 1 _ HA.out (fun a ha => by
    simp only [List.mem_singleton] at ha
    subst ha
    exact .inr ⟨by show (0 : Int) ≤ 1; omega, by rw [HS1.out]; show (1 : Int) < _; simp, by simp [zeros]⟩) (by rw [HW1.out]; decide)).mono ?_
  rintro e w6 ⟨⟨d, rfl, hs, hw, hd⟩, e6⟩
  have hs' : d.secv = List.replicate 3 (zeros 64) := by rw [hs, HS1.out, HW1.out]; rfl
  have hw' : d.wv = [(1, (zeros 64).set 0 1)] := by rw [hw, HS1.out, HW1.out]; rfl
  have HS2 := Lib.hid hs'
  have HW2 := Lib.hid hw'
  have HD2 := Lib.hid hd
  have HO2 := Lib.hid (show okV d.secv d.wv by
    rw [hs', hw']
    exact ⟨by simp, by simp, fun s hs => by obtain ⟨_, rfl⟩ := List.mem_replicate.1 hs; simp [zeros], fun x hx => by simp only [List.mem_singleton] at hx; subst hx; simp [zeros]⟩)
  clear hs hw hd hs' hw'
  obtain ⟨⟨A2, n2, c2, xs2⟩, ⟨B2, m2, l2, ys2⟩⟩ := d
  simp only [Dev.cells, Sl.val]
  obtain ⟨c0, c1', h0, h1, z6⟩ := BX.out w6 (e5.trans e6)
  have x6 : Ext w w6 := x4.trans (e5.trans e6)
  go_wp2_with fail
  generalize hw7 : World.setCell (World.setCell w6 _ _) _ _ = w7
  obtain ⟨c70, c71, f70, f71, z7⟩ := put2 hw7 c0 c1' h0 h1
  have sz5 := e5.size
  have hz4 := Z4.out
  have HD7 := Lib.hid (put2_at hw7 HD2.out (by omega))
  have x7 := put2_ext hw7 x6 zw
  clear hw7 c0 c1' h0 h1
  refine (crash_abs ⟨⟨A2, n2, c2, xs2⟩, ⟨B2, m2, l2, ys2⟩⟩ w7 (by have := HD7.out.low (Nat.zero_le _); rw [z7]; exact this) HO2.out none 0 0 [] ⟨rfl, by omega, Rd.nil⟩ (by rw [HW2.out]; decide)).mono ?_
  rintro e w8 ⟨⟨d, rfl, hs, hw, hd⟩, e8⟩
  have hs' : d.secv = List.replicate 3 (zeros 64) := by rw [hs, HS2.out, HW2.out]; rfl
  have HS3 := Lib.hid hs'
  have HW3 := Lib.hid hw
  have HD3 := Lib.hid hd
  have HM3 := Lib.hid (show d.waits.n = 0 by rw [← wv_len hd, hw]; rfl)
  have HO3 := Lib.hid (show okV d.secv d.wv by rw [hs', hw]; exact new_ok 3 (by omega) (by omega))
  clear hs hw hd hs'
  obtain ⟨⟨A3, n3, c3, xs3⟩, ⟨B3, m3, l3, ys3⟩⟩ := d
  obtain rfl : m3 = 0 := HM3.out
  simp only [Dev.cells, Sl.val]
  have z1b : w1.heap.size < w7.heap.size := by omega
  have c80 : w8.cell? ⟨w1.heap.size, 0, none⟩ = some (.slice A2 n2 c2) := (Below.cell (p := ⟨w1.heap.size, 0, none⟩) e8 z1b).trans c70
  have c81 : w8.cell? ⟨w1.heap.size, 1, none⟩ = some (.slice B2 m2 l2) := (Below.cell (p := ⟨w1.heap.size, 1, none⟩) e8 z1b).trans c71
  have f80 : w8.frozen? ⟨w1.heap.size, 0, none⟩ = false := (Below.frozen (p := ⟨w1.heap.size, 0, none⟩) e8 z1b).trans f70
  have f81 : w8.frozen? ⟨w1.heap.size, 1, none⟩ = false := (Below.frozen (p := ⟨w1.heap.size, 1, none⟩) e8 z1b).trans f71
  have x8 : Ext w w8 := x7.trans e8
  clear c70 c71 f70 f71
  go_wp2_with fail
  generalize hw9 : World.setCell (World.setCell w8 _ _) _ _ = w9
  obtain ⟨c90, c91, f90, f91, z9⟩ := put2 hw9 c80 c81 f80 f81
  have HD9 := Lib.hid (put2_at hw9 HD3.out (by omega))
  have x9 := put2_ext hw9 x8 zw
  clear hw9 c80 c81 f80 f81
  have sz8 := e8.size
  refine (read_abs ⟨⟨A3, n3, c3, xs3⟩, ⟨B3, 0, l3, ys3⟩⟩ w9 (by have := HD9.out.low (Nat.zero_le _); rw [z9]; exact this) HO3.out 1 (by rw [HS3.out]; decide)).mono ?_
  rintro e wa ⟨⟨s, rfl, hsx, hso⟩, ea⟩
  have hsx' : s.xs = zeros 64 := by rw [hsx, HS3.out, HW3.out]; rfl
  obtain ⟨sA, sn, sc, sx⟩ := s
  simp only at hsx'
  subst hsx'
  have hsn : sn = 64 := by have := hso.at_.len; simpa [zeros] using this
  subst hsn
  obtain ⟨rb, ro, hA, _, _, hbyte⟩ := rd_byte (Oct.At.rdb hso.at_) (k := 0) (by simp [zeros])
  have hA' : sA = some ⟨rb, ro, none⟩ := hA
  subst hA'
  simp only [zeros, List.getElem_replicate, Nat.add_zero] at hbyte
  have hbyte2 : wa.cell? ⟨rb, ro, none⟩ = some (.int .u8 0) := hbyte
  clear hbyte hA hsx
  have z9b : w1.heap.size < w9.heap.size := by omega
  have xa : Ext w wa := x9.trans ea
  have ca : wa.cell? ⟨w1.heap.size, 1, none⟩ = some (.slice B3 0 l3) := (Below.cell (p := ⟨w1.heap.size, 1, none⟩) ea z9b).trans c91
  clear c90 c91 f90 f91
  simp only [Sl.val]
  clear k2
  go_wp2_with (go_at_call 12; refine (num_any _ _).mono ?_; rintro e wb ⟨rfl, rfl⟩)
  go_ret
  exact ⟨rfl, xa⟩
end Go.Proofs.Ythjpjhcbefhpbaa
