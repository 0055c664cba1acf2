/- The walk of RequestBack: it returns true. It reads the table strings.asciiSpace as it was laid. -/
import Derived.Test.YtpbbjmfhcgcldaaDoorRoct
namespace Go.Proofs.YtpbbjmfhcgcldaaDoor
open Go.RowKit
set_option linter.unusedVariables false
set_option linter.unusedSimpArgs false

theorem octB_len {zs : List Int} {l : List ByteArray} (h : octE zs l = 0) : (octB zs l).length ≤ 70000000 := by
  obtain ⟨_, h2, h3⟩ := octE_zero h
  rw [h3]
  have hz := (wE_zero l).1 h2
  have h4 := acc_len l l.length ((any_long l).2 hz.2) (Nat.le_refl _)
  have h5 : wB l = acc l l.length := by rw [wB, if_pos h2, flat, acc, List.take_of_length_le (Nat.le_refl _)]
  rw [h5]
  have h6 : l.length * 65539 ≤ 1024 * 65539 := Nat.mul_le_mul_right _ hz.1
  omega
theorem octE_ne {zs : List Int} {l : List ByteArray} (h : octE zs l ≠ 0) : octB zs l = [] := by
  unfold octE octB at *
  by_cases hz : zs.any oddI = true
  · rw [if_pos hz]
  · rw [if_neg hz] at h ⊢
    rw [wB, if_neg h]
set_option maxRecDepth 100000 in
set_option maxHeartbeats 8000000 in
theorem rback_any (w : World) (hT : Tab w) (r : Req) (hr : r.Ok) (p : Rep) (hp : Rep.At w 0 w.heap.size p) (hb : (p.list.n + 3) * 16 ≤ 140737488355328) :
    Calls Tryd.prog 4 #[.agg r.cells.toArray, .agg p.cells.toArray] w fun e w' => e = .returned (.bool true) ∧ Ext w w' := by
  have HT := Lib.hid hT
  have HOc := Lib.hid (fun w1 => octets_any r w1 hr)
  have HRp := Lib.hid (fun w1 (e : Ext w w1) => reply_any p w1 (hp.on e (Nat.le_refl _)) hb)
  have HP := Lib.hid hp
  have HB1 := Lib.hid (req_back r)
  have HB2 := Lib.hid (rep_back p)
  have HL1 := Lib.hid (fun h => octB_len (zs := r.ints) (l := r.texts) h)
  have HL2 := Lib.hid (fun h => octB_len (zs := p.ints) (l := p.texts) h)
  have HN2 := Lib.hid (fun h => octE_ne (zs := p.ints) (l := p.texts) h)
  clear hT hr hp hb
  generalize octE r.ints r.texts = E1 at *
  generalize octB r.ints r.texts = B1 at *
  generalize octE p.ints p.texts = E2 at *
  generalize octB p.ints p.texts = B2 at *
  obtain ⟨tn, us, ki, pa, na, ot, ix, cn, da⟩ := r
  obtain ⟨er, nu, dp, ⟨lA, ln, lc, lx⟩⟩ := p
  simp only [Req.cells, Rep.cells, Sl.val] at HOc HRp ⊢
  go_enter Tryd.func4, Tryd.ntmps4
  go_upto_region 1 with fail
  generalize hw1 : World.alloc w _ = w1
  obtain ⟨e1, z1, G1⟩ := box_cells hw1
  clear hw1
  generalize hw2 : World.alloc w1 _ = w2
  obtain ⟨e2, z2, G2⟩ := box_cells hw2
  clear hw2
  rw [z1] at G2
  have a0 := fun w' (e : Ext w2 w') => G1 0 _ rfl w' (e2.trans e)
  have a1 := fun w' (e : Ext w2 w') => G1 1 _ rfl w' (e2.trans e)
  have a2 := fun w' (e : Ext w2 w') => G1 2 _ rfl w' (e2.trans e)
  have a3 := fun w' (e : Ext w2 w') => G1 3 _ rfl w' (e2.trans e)
  have a4 := fun w' (e : Ext w2 w') => G1 4 _ rfl w' (e2.trans e)
  have a5 := fun w' (e : Ext w2 w') => G1 5 _ rfl w' (e2.trans e)
  have a6 := fun w' (e : Ext w2 w') => G1 6 _ rfl w' (e2.trans e)
  have a7 := fun w' (e : Ext w2 w') => G1 7 _ rfl w' (e2.trans e)
  have a8 := fun w' (e : Ext w2 w') => G1 8 _ rfl w' (e2.trans e)
  have b0 := G2 0 _ rfl
  have b1 := G2 1 _ rfl
  have b2 := G2 2 _ rfl
  have b3 := G2 3 _ rfl
  have x2 : Ext w w2 := e1.trans e2
  clear G1 G2 z1 z2 e1 e2
  have r2 := Ext.refl w2
  go_wp2_with fail
  refine (alive29_any _ (HT.out.ext x2)).mono ?_
  rintro e w3 ⟨rfl, e3⟩
  have c0 := a0 _ e3
  have c1 := a1 _ e3
  have c2 := a2 _ e3
  have c3 := a3 _ e3
  have c4 := a4 _ e3
  have c5 := a5 _ e3
  have c6 := a6 _ e3
  have c7 := a7 _ e3
  have c8 := a8 _ e3
  have x3 : Ext w w3 := x2.trans e3
  go_wp2_with fail
  refine (HOc.out w3).mono ?_
  rintro e w4 ⟨v, rfl, hown, e4⟩
  obtain ⟨A4, cap4, rfl, hl4, hc4, _⟩ := own_form hown
  have HO4 := Lib.hid hown
  have e34 : Ext w2 w4 := e3.trans e4
  have x4 : Ext w w4 := x3.trans e4
  have hc4' : cap4 ≤ 9223372036854775807 := hc4
  clear hown c0 c1 c2 c3 c4 c5 c6 c7 c8
  by_cases h1 : E1 = 0
  · subst h1
    have hps := HB1.out rfl
    have hlen := HL1.out rfl
    have HPs := Lib.hid (parse_any w4 A4 B1.length cap4 B1 rfl hl4 ((Rd.of_own HO4.out).more (Nat.zero_le _) (Nat.le_refl _)) (by omega) hc4')
    rw [hps] at HPs
    clear hps hlen
    go_wp2_with (go_at_call 12; refine (num29_any _ _).mono ?_; rintro e wb ⟨rfl, rfl⟩)
    refine HPs.out.mono ?_
    rintro e w5 ⟨rfl, e5⟩
    simp only [Req.cells]
    go_upto_region 6 with fail
    generalize hw6 : World.alloc w5 _ = w6
    have e6 := box_drop hw6
    have hbx := Bx.new hw6
    clear hw6
    have d0 := hbx.cell 0 _ rfl
    have d1 := hbx.cell 1 _ rfl
    have d2 := hbx.cell 2 _ rfl
    have d3 := hbx.cell 3 _ rfl
    have d4 := hbx.cell 4 _ rfl
    have d5 := hbx.cell 5 _ rfl
    have d6 := hbx.cell 6 _ rfl
    have d7 := hbx.cell 7 _ rfl
    have d8 := hbx.cell 8 _ rfl
    clear hbx
    have e26 : Ext w2 w6 := e34.trans (e5.trans e6)
    have c0 := a0 _ e26
    have c1 := a1 _ e26
    have c2 := a2 _ e26
    have c3 := a3 _ e26
    have c4 := a4 _ e26
    have c5 := a5 _ e26
    have c6 := a6 _ e26
    have c7 := a7 _ e26
    have c8 := a8 _ e26
    have f0 := b0 _ e26
    have f1 := b1 _ e26
    have f2 := b2 _ e26
    have f3 := b3 _ e26
    go_wp2_with (go_at_call 12; refine (num29_any _ _).mono ?_; rintro e wb ⟨rfl, rfl⟩)
    have x6 : Ext w w6 := x2.trans e26
    refine (HRp.out w6 x6).mono ?_
    rintro e w7 ⟨v, rfl, hown, e7⟩
    obtain ⟨A7, cap7, rfl, hl7, hc7, _⟩ := own_form hown
    have HO7 := Lib.hid hown
    have x7 : Ext w w7 := x6.trans e7
    have e27 : Ext w2 w7 := e26.trans e7
    have hc7' : cap7 ≤ 9223372036854775807 := hc7
    clear hown
    by_cases h2 : E2 = 0
    · subst h2
      have hlen := HL2.out rfl
      have hps := HB2.out rfl
      have HRd := Lib.hid (readr_any w7 A7 B2.length cap7 B2 rfl hl7 ((Rd.of_own HO7.out).more (Nat.zero_le _) (Nat.le_refl _)) (by omega) hc7')
      rw [hps] at HRd
      clear hps hlen
      go_wp2_with (go_at_call 12; refine (num29_any _ _).mono ?_; rintro e wb ⟨rfl, rfl⟩)
      refine HRd.out.mono ?_
      rintro e w8 ⟨⟨r', rfl, hab, hat⟩, e8⟩
      have HSm := Lib.hid (fun w1 (e : Ext w8 w1) => same_any _ r' w1 (HP.out.on (x7.trans (e8.trans e)) (Nat.le_refl _)) ((hat.low (Nat.zero_le _)).on e (Nat.le_refl _)) hab.symm)
      clear hab hat
      obtain ⟨er', nu', dp', ⟨mA, mn, mc, mx⟩⟩ := r'
      simp only [Rep.cells, Sl.val] at HSm ⊢
      go_upto_region 12 with fail
      generalize hw9 : World.alloc w8 _ = w9
      have e9 := box_drop hw9
      have hbx := Bx.new hw9
      clear hw9
      have q0 := hbx.cell 0 _ rfl
      have q1 := hbx.cell 1 _ rfl
      have q2 := hbx.cell 2 _ rfl
      have q3 := hbx.cell 3 _ rfl
      clear hbx
      have e29 : Ext w2 w9 := e27.trans (e8.trans e9)
      have k0 := b0 _ e29
      have k1 := b1 _ e29
      have k2 := b2 _ e29
      have k3 := b3 _ e29
      have x9 : Ext w w9 := x2.trans e29
      go_wp2_with (first | (go_at_call 12; refine (num29_any _ _).mono ?_; rintro e wb ⟨rfl, rfl⟩) | (go_at_call 19; refine (HSm.out _ e9).mono ?_; rintro e wf ⟨rfl, ef⟩))
      go_ret
      exact ⟨rfl, x9.trans ef⟩
    · have hB := HN2.out h2
      have hne : (E2 != 0) = true := by simp [bne, h2]
      clear h2
      subst hB
      go_wp2_with (go_at_call 12; refine (num29_any _ _).mono ?_; rintro e wb ⟨rfl, rfl⟩)
      go_ret
      exact ⟨rfl, x7⟩
  · have hne1 : (E1 == 0) = false := by simp [h1]
    clear h1
    have e26 := e34
    have f0 := b0 _ e26
    have f1 := b1 _ e26
    have f2 := b2 _ e26
    have f3 := b3 _ e26
    go_wp2_with (go_at_call 12; refine (num29_any _ _).mono ?_; rintro e wb ⟨rfl, rfl⟩)
    have x6 : Ext w w4 := x2.trans e26
    refine (HRp.out w4 x6).mono ?_
    rintro e w7 ⟨v, rfl, hown, e7⟩
    obtain ⟨A7, cap7, rfl, hl7, hc7, _⟩ := own_form hown
    have HO7 := Lib.hid hown
    have x7 : Ext w w7 := x6.trans e7
    have e27 : Ext w2 w7 := e26.trans e7
    have hc7' : cap7 ≤ 9223372036854775807 := hc7
    clear hown
    by_cases h2 : E2 = 0
    · subst h2
      have hlen := HL2.out rfl
      have hps := HB2.out rfl
      have HRd := Lib.hid (readr_any w7 A7 B2.length cap7 B2 rfl hl7 ((Rd.of_own HO7.out).more (Nat.zero_le _) (Nat.le_refl _)) (by omega) hc7')
      rw [hps] at HRd
      clear hps hlen
      go_wp2_with (go_at_call 12; refine (num29_any _ _).mono ?_; rintro e wb ⟨rfl, rfl⟩)
      refine HRd.out.mono ?_
      rintro e w8 ⟨⟨r', rfl, hab, hat⟩, e8⟩
      have HSm := Lib.hid (fun w1 (e : Ext w8 w1) => same_any _ r' w1 (HP.out.on (x7.trans (e8.trans e)) (Nat.le_refl _)) ((hat.low (Nat.zero_le _)).on e (Nat.le_refl _)) hab.symm)
      clear hab hat
      obtain ⟨er', nu', dp', ⟨mA, mn, mc, mx⟩⟩ := r'
      simp only [Rep.cells, Sl.val] at HSm ⊢
      go_upto_region 12 with fail
      generalize hw9 : World.alloc w8 _ = w9
      have e9 := box_drop hw9
      have hbx := Bx.new hw9
      clear hw9
      have q0 := hbx.cell 0 _ rfl
      have q1 := hbx.cell 1 _ rfl
      have q2 := hbx.cell 2 _ rfl
      have q3 := hbx.cell 3 _ rfl
      clear hbx
      have e29 : Ext w2 w9 := e27.trans (e8.trans e9)
      have k0 := b0 _ e29
      have k1 := b1 _ e29
      have k2 := b2 _ e29
      have k3 := b3 _ e29
      have x9 : Ext w w9 := x2.trans e29
      go_wp2_with (first | (go_at_call 12; refine (num29_any _ _).mono ?_; rintro e wb ⟨rfl, rfl⟩) | (go_at_call 19; refine (HSm.out _ e9).mono ?_; rintro e wf ⟨rfl, ef⟩))
      go_ret
      exact ⟨rfl, x9.trans ef⟩
    · have hB := HN2.out h2
      have hne : (E2 != 0) = true := by simp [bne, h2]
      clear h2
      subst hB
      go_wp2_with (go_at_call 12; refine (num29_any _ _).mono ?_; rintro e wb ⟨rfl, rfl⟩)
      go_ret
      exact ⟨rfl, x7⟩
end Go.Proofs.YtpbbjmfhcgcldaaDoor
