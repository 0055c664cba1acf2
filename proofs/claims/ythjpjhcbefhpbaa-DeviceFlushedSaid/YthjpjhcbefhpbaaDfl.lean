/- The walk of DeviceFlushed: it returns true. -/
import Derived.Test.YthjpjhcbefhpbaaBx
namespace Go.Proofs.Ythjpjhcbefhpbaa
open Go.RowKit
set_option linter.unusedSimpArgs false
set_option linter.unusedVariables false

set_option maxRecDepth 100000 in
set_option maxHeartbeats 8000000 in
theorem flushed_any (w : World) (n0 : Int) (q0 : -9223372036854775808 ≤ n0) (q1 : n0 ≤ 9223372036854775807) (A : Option Addr) (m c : Nat) (l : List Ac) (hl : Acs w A m c l) (hb : (m + 1) * 40 ≤ 140737488355328) (B : Option Addr) (kn kc : Nat) (ks : List Bool) (hk : Ks w B kn kc ks) :
    Calls Try.prog 5 #[.int .i64 n0, .slice A m c, .slice B kn kc] w fun e w' => e = .returned (.bool true) ∧ Ext w w' := by
  have HL := Lib.hid hl
  have HK := Lib.hid hk
  have HM := Lib.hid hl.len
  clear hl hk
  obtain ⟨i0, hi0, hz0, hz1, hz2⟩ := info_parts infoAct
  go_enter Try.func5, Try.ntmps5
  go_wp2_with fail
  refine (alive_any _).mono ?_
  rintro e w1 ⟨rfl, e1⟩
  go_wp2_with fail
  refine (small_any _ _ q0 q1).mono ?_
  rintro e w2 ⟨⟨k, ⟨hk0, hk1⟩, rfl⟩, rfl⟩
  go_wp2_with fail
  refine (new_abs _ k hk0 (by omega)).mono ?_
  rintro e w2 ⟨⟨d, rfl, hs, hw, hd⟩, e2⟩
  have x2 : Ext w w2 := e1.trans e2
  clear e1 e2
  have HO := Lib.hid (show okV d.secv d.wv by rw [hs, hw]; exact new_ok k hk0 (by omega))
  have HS := Lib.hid hs
  have HW := Lib.hid hw
  have HD := Lib.hid hd
  clear hs hw hd
  obtain ⟨⟨A1, n1, c1, xs1⟩, ⟨B1, m1, l1, ys1⟩⟩ := d
  simp only [Dev.cells, Sl.val]
  go_upto_region 5 with (fail)
  generalize hw3 : World.alloc w2 _ = w3
  have HB := Lib.hid (Bx.new hw3)
  have e3 : Ext w2 w3 := by rw [← hw3]; exact (Ext.refl _).alloc _
  have x3 := x2.trans e3
  have z3 : w3.heap.size = w2.heap.size + 1 := by rw [← hw3]; simp
  clear hw3
  simp only at HB
  go_wp2_with fail
  go_loopw [9, 10] (fun v i wr => ∃ (j : Nat) (acts : List Ac), j ≤ m ∧ i = .int .i64 j ∧ Hid (acts.map Ac.abs = (l.take j).map (fun a => rightV k a.abs)) ∧ Hid (AcsOwn wr w3.heap.size v acts) ∧ Ext w3 wr) (fun _ i _ => m - (intOf i).toNat)
  case atStart => exact ⟨0, [], Nat.zero_le _, rfl, Lib.hid rfl, Lib.hid (AcsOwn.nil _ _), Ext.refl _⟩
  case round =>
    obtain ⟨j, acts, hj, rfl, HV, HA, e4⟩ := hrel
    by_cases hlt : j < m
    · have hjl : j < l.length := by rw [← HM.out]; exact hlt
      obtain ⟨q1, q2, hA, _, hq1, G0⟩ := rd_flat (size := 3) (fun _ => rfl) (by omega) HL.out.rd hjl
      subst hA
      have xr : Ext w wr := x3.trans e4
      have HR := Lib.hid (right_any wr l[j] k (by omega) (by omega) (((HL.out.all _ (List.getElem_mem hjl)).on xr (Nat.le_refl _)).low (Nat.zero_le _)))
      have htk := Lib.hid (show (l.take (j + 1)).map (fun a => rightV k a.abs) = (l.take j).map (fun a => rightV k a.abs) ++ [rightV k l[j].abs] by rw [List.take_succ_eq_append_getElem hjl, List.map_append]; rfl)
      have G : ∀ j' u, l[j].cells[j']? = some u → wr.cell? ⟨q1, q2 + j * 3 + j', none⟩ = some u := fun j' u hu => by rw [Below.cell xr hq1]; exact G0 j' u hu
      clear G0
      generalize l[j] = a at *
      obtain ⟨fl, pos, ⟨aA, an, ac, ax⟩⟩ := a
      have g0 := G 0 _ rfl
      have g1 := G 1 _ rfl
      have g2 := G 2 _ rfl
      simp only [Nat.add_zero, Sl.val] at g0 g2
      simp only [Ac.cells, Sl.val] at HR
      clear G
      have p0 : (0 : Int) ≤ j := by omega
      have p1 : (j : Int) < m := by omega
      go_wp2_with fail
      refine HR.out.mono ?_
      rintro e w5 ⟨⟨b, rfl, hbv, hba⟩, e5⟩
      have HBV := Lib.hid hbv
      have HBA := Lib.hid hba
      clear hbv hba HR g0 g1 g2
      have HA5 := Lib.hid (HA.out.ext e5)
      have hap := Lib.hid (HA.out.ap HBA.out)
      have zr := e4.size
      have z5 := e5.size
      have e6 : Ext w3 w5 := e4.trans e5
      have hlen : acts.length = j := by
        have := congrArg List.length HV.out
        rw [List.length_map, List.length_map, List.length_take] at this
        omega
      have HLen := Lib.hid hlen
      clear hlen
      obtain ⟨bfl, bpos, ⟨bA, bn, bc, bx⟩⟩ := b
      simp only [Ac.cells, Sl.val]
      go_wp2_with
        (at_builtin
         refine list_app _ rfl (.tmp 34) (.tmp 41) _ rfl 36 i0 _ 3 40 Try.underlying22 hi0 hz0 hz1 hz2 rfl (by omega) w3.heap.size _ acts.length _ rfl (HA5.out.ext ((Ext.refl _).alloc _)).own 0 _ _ 1 1 (Ac.cells ⟨bfl, bpos, ⟨bA, bn, bc, bx⟩⟩) rfl rfl
           ((rd_new _ _ _).more (Nat.zero_le _) (Nat.le_refl _)) (ac_one _) (by simp only [maxLen]; have := HLen.out; omega) (by have := HLen.out; omega) (by simp; omega) ?_
         intro v3 w7 hown3 he3 hob hg
         have e7 : Ext w3 w7 := he3 _ (e6.alloc _) (Nat.le_refl _)
         have HA7 := Lib.hid (AcsOwn.push (HA5.out.ext ((Ext.refl _).alloc _)) (HBA.out.on ((Ext.refl _).alloc _) (Nat.le_refl _) |>.low (by omega)) hap.out hown3 hg hob)
         clear he3 hown3 hob hg)
      go_roundw
      case rel => exact ⟨j + 1, _, by omega, by go_num, Lib.hid (by rw [htk.out, List.map_append, HV.out, List.map_singleton, HBV.out]), HA7, e7⟩
      case measure => simp [intOf]; omega
    · obtain rfl : j = m := by omega
      have HV2 := Lib.hid (show acts.map Ac.abs = l.map (fun a => rightV k a.abs) by rw [HV.out, List.take_of_length_le (by rw [← HM.out]; exact Nat.le_refl _)])
      clear HV
      obtain ⟨aA, ac, rfl, ha1, ha2, _⟩ := HA.out.acs
      go_wp2_with fail
      have hx2 : Ext w3 wr := e4
      have hbx := HB.out.ext e4
      have cd_0 := Bx.cell hbx 0 _ rfl; have cd_1 := Bx.cell hbx 1 _ rfl
      have HBr := Lib.hid hbx
      have zr := e4.size
      refine rgnM (fun k => k != 8 && k != 10) (S := fun w' => w'.cell? ⟨w2.heap.size, 0, none⟩ = some (.slice A1 n1 c1) ∧ w'.cell? ⟨w2.heap.size, 1, none⟩ = some (.slice B1 m1 l1)) (by kernel_rfl) ?_ (fun hHeld => ?_)
      · exact ⟨cd_0, cd_1⟩
      refine takeM 0 (v := ?_) rfl (by kernel_rfl) (by kernel_rfl) (by kernel_rfl) (by kernel_rfl) (fun _ _ _ h => h) (by kernel_rfl) ?_ (by assumption) ?_; rotate_left; (focus (intro w hSw; (try dsimp only at hSw); (try go_split_ands); go_simp <;> with_reducible rfl)); try simp only [Act.put, List.setIfInBounds_toArray, List.set_cons_zero, List.set_cons_succ]
      refine takeM 1 (v := ?_) rfl (by kernel_rfl) (by kernel_rfl) (by kernel_rfl) (by kernel_rfl) (fun _ _ _ h => h) (by kernel_rfl) ?_ (by assumption) ?_; rotate_left; (focus (intro w hSw; (try dsimp only at hSw); (try go_split_ands); go_simp <;> with_reducible rfl)); try simp only [Act.put, List.setIfInBounds_toArray, List.set_cons_zero, List.set_cons_succ]
      refine takeM 2 (v := ?_) rfl (by kernel_rfl) (by kernel_rfl) (by kernel_rfl) (by kernel_rfl) (fun _ _ _ h => h) (by kernel_rfl) ?_ (by assumption) ?_; rotate_left; (focus (intro w hSw; (try dsimp only at hSw); (try go_split_ands); go_simp <;> with_reducible rfl)); try simp only [Act.put, List.setIfInBounds_toArray, List.set_cons_zero, List.set_cons_succ]
      refine oneM 3 rfl (by kernel_rfl) (by kernel_rfl) (fun K hK => ?_); (try go_simp)
      generalize hw4 : World.drew (World.alloc _ _) = w4
      have e5 : Ext wr w4 := by rw [← hw4]; exact ((Ext.refl _).alloc _).drew
      have HNw : Hid (Rd w4 wr.heap.size w4.heap.size (some ⟨wr.heap.size, 0, none⟩) (Ac.cells ⟨true, 0, ⟨none, 0, 0, []⟩⟩)) := by
        subst hw4
        have := (rd_new wr #[.bool true, .int .i64 0, .slice none 0 0] 36).drew
        rw [Hid]
        simpa [Ac.cells, Sl.val] using this
      clear hw4
      have hb4 := HBr.out.ext e5
      refine hK.out _ _ ⟨hb4.cell 0 _ rfl, hb4.cell 1 _ rfl⟩ (fun hHeld => ?_)
      clear hK K
      try simp only [Act.put, List.setIfInBounds_toArray, List.set_cons_zero, List.set_cons_succ]
      refine oneM 4 rfl (by kernel_rfl) (by kernel_rfl) (fun K hK => ?_)
      have HA4 := Lib.hid (HA.out.ext e5)
      have hlen : acts.length = l.length := by
        have := congrArg List.length HV2.out
        rwa [List.length_map, List.length_map] at this
      have hm9 := HM.out
      have z5 := e5.size
      refine wp_append_any w4 (.tmp 45) (.tmp 47) _ rfl w3.heap.size 36 i0 _ 3 40 Try.underlying22 hi0 hz0 hz1 hz2 rfl (by omega) (.slice aA acts.length ac) acts.length (acts.flatMap Ac.cells) rfl HA4.out.own wr.heap.size w4.heap.size (some ⟨wr.heap.size, 0, none⟩) 1 1 (Ac.cells ⟨true, 0, ⟨none, 0, 0, []⟩⟩) rfl rfl HNw.out (ac_one _) (by unfold maxLen; omega) (by omega) (by omega) ?_
      intro v4 w5 o5 hg hob
      have Hlen := Lib.hid hlen
      have Hm9 := Lib.hid hm9
      clear hlen hm9
      have e6 : Ext w3 w5 := ext_grown (e4.trans e5) HA4.out.own hg (Nat.le_refl _)
      have HA5 := Lib.hid (AcsOwn.push (b := ⟨true, 0, ⟨none, 0, 0, []⟩⟩) HA4.out ⟨by decide, by decide, ⟨rfl, Nat.le_refl _, Nat.zero_le _, Rd.nil, fun _ h => by simp at h⟩⟩ (fun h => absurd rfl h) o5 hg hob)
      clear o5 hg hob
      have hb5 := HB.out.ext e6
      refine hK.out _ _ ⟨hb5.cell 0 _ rfl, hb5.cell 1 _ rfl⟩ (fun hHeld => ?_)
      clear hK K
      try simp only [Act.put, List.setIfInBounds_toArray, List.set_cons_zero, List.set_cons_succ]
      obtain ⟨A4, c4, rfl, _, _, hac⟩ := HA5.out.acs
      have HAC := Lib.hid (show Acs w5 A4 (acts.length + 1) c4 (acts ++ [⟨true, 0, ⟨none, 0, 0, []⟩⟩]) by rw [List.length_append] at hac; exact hac)
      clear hac
      simp only [List.length_append, List.length_singleton]
      have HOK : Hid (∀ a ∈ acts ++ [(⟨true, 0, ⟨none, 0, 0, []⟩⟩ : Ac)], a.flush = true ∨ (0 ≤ a.pos ∧ a.pos < ((Dev.secv ⟨⟨A1, n1, c1, xs1⟩, ⟨B1, m1, l1, ys1⟩⟩).length : Int) ∧ a.data.xs.length = 64)) := Lib.hid (fun a ha => by
        have h1 : a.abs ∈ (acts ++ [(⟨true, 0, ⟨none, 0, 0, []⟩⟩ : Ac)]).map Ac.abs := List.mem_map_of_mem ha
        rw [List.map_append, HV2.out] at h1
        rcases List.mem_append.1 h1 with h2 | h2
        · obtain ⟨y, _, hy⟩ := List.mem_map.1 h2
          have h3 := rightV_ok k (by omega) y.abs
          rw [hy] at h3
          rw [HS.out, List.length_replicate]
          exact h3
        · rw [List.map_singleton, List.mem_singleton] at h2
          exact .inl (congrArg Prod.fst h2))
      have HDo := Lib.hid (do_abs ⟨⟨A1, n1, c1, xs1⟩, ⟨B1, m1, l1, ys1⟩⟩ w5 ((HD.out.on (e3.trans e6) (Nat.le_refl _)).low (Nat.zero_le _)) HO.out A4 (acts.length + 1) c4 _ HAC.out HOK.out (by rw [HW.out, Hlen.out, ← Hm9.out]; simp; omega))
      simp only [Dev.cells, Sl.val] at HDo
      refine oneM 5 rfl (by kernel_rfl) (by kernel_rfl) (fun K hK => ?_); (try go_simp)
      refine HDo.out.mono ?_
      rintro e w6 ⟨⟨d, rfl, hs, hw, hd⟩, e7⟩
      have hs' : d.secv = (stepV (doV acts (List.replicate k (zeros 64), [])) ⟨true, 0, ⟨none, 0, 0, []⟩⟩).1 := by rw [hs, HS.out, HW.out, doV, List.foldl_append]; rfl
      have hw' : d.wv = [] := by rw [hw, doV, List.foldl_append]; rfl
      have hok := do_ok (acts ++ [⟨true, 0, ⟨none, 0, 0, []⟩⟩]) HO.out HOK.out
      rw [← hs, ← hw, HS.out, List.length_replicate] at hok
      have HS6 := Lib.hid hs'
      have HW6 := Lib.hid hw'
      have HO6 := Lib.hid hok.1
      have HN6 := Lib.hid hok.2
      have HD6 := Lib.hid hd
      clear hs hw hs' hw' hd hok
      obtain ⟨⟨A2, n2, c2, xs2⟩, ⟨B2, m2, l2, ys2⟩⟩ := d
      simp only [Dev.cells, Sl.val]
      have e8 : Ext w3 w6 := e6.trans e7
      have hb6 := HB.out.ext e8
      go_wp2_with fail
      refine hK.out _ _ ⟨hb6.cell 0 _ rfl, hb6.cell 1 _ rfl⟩ (fun hHeld => ?_)
      clear hK K
      try simp only [Act.put, List.setIfInBounds_toArray, List.set_cons_zero, List.set_cons_succ]
      refine takeM 6 (v := ?_) rfl (by kernel_rfl) (by kernel_rfl) (by kernel_rfl) (by kernel_rfl) (fun _ _ _ h => h) (by kernel_rfl) ?_ (by assumption) ?_; rotate_left; (focus (intro w hSw; (try dsimp only at hSw); (try go_split_ands); go_simp <;> with_reducible rfl)); try simp only [Act.put, List.setIfInBounds_toArray, List.set_cons_zero, List.set_cons_succ]
      refine takeM 7 (v := ?_) rfl (by kernel_rfl) (by kernel_rfl) (by kernel_rfl) (by kernel_rfl) (fun _ _ _ h => h) (by kernel_rfl) ?_ (by assumption) ?_; rotate_left; (focus (intro w hSw; (try dsimp only at hSw); (try go_split_ands); go_simp <;> with_reducible rfl)); try simp only [Act.put, List.setIfInBounds_toArray, List.set_cons_zero, List.set_cons_succ]
      refine pureM 8 (v := ?_) rfl (by kernel_rfl) (by kernel_rfl) (by kernel_rfl) (by kernel_rfl) (fun _ _ _ h => h) (by kernel_rfl) ?_ (fun _ => by assumption) ?_; rotate_left; (focus (intro w; go_simp <;> with_reducible rfl)); try simp only [Act.put, List.setIfInBounds_toArray, List.set_cons_zero, List.set_cons_succ]
      have hf0 := hb6.frozen 0 _ rfl
      have hf1 := hb6.frozen 1 _ rfl
      have hc0 := hb6.cell 0 _ rfl
      have hc1 := hb6.cell 1 _ rfl
      refine freeM 9 rfl (by kernel_rfl) (by kernel_rfl) (by kernel_rfl) (fun K hK => ?_); (try go_simp)
      generalize hw7 : World.setCell (World.setCell w6 _ _) _ _ = w7
      have HB7 := Lib.hid (hb6.put2 hw7)
      have s67 := put2_ext hw7 (Ext.refl w2 |>.trans (e3.trans e8)) (Nat.le_refl _)
      have z7 : w7.heap.size = w6.heap.size := by rw [← hw7]; simp
      have z4 := e3.size
      have z8 := e6.size
      have z9 := e7.size
      have HD7 := Lib.hid (put2_at hw7 HD6.out (by omega))
      clear hw7
      refine hK.out _ _ ?_
      clear hK K
      try simp only [Act.put, List.setIfInBounds_toArray, List.set_cons_zero, List.set_cons_succ]
      refine freeM 10 rfl (by kernel_rfl) (by kernel_rfl) (by kernel_rfl) (fun K hK => ?_); (try go_simp)
      refine hK.out _ _ ?_
      clear hK K
      try simp only [Act.put, List.setIfInBounds_toArray, List.set_cons_zero, List.set_cons_succ]
      refine doneM (by kernel_rfl) ?_
      have HDr := Lib.hid (fun w1 (e : Ext w7 w1) => HD7.out.low (Nat.zero_le _) |>.on e (by omega))
      have HCr := Lib.hid (fun w1 (e : Ext w7 w1) => crash_abs ⟨⟨A2, n2, c2, xs2⟩, ⟨B2, m2, l2, ys2⟩⟩ w1 (HD7.out.low (Nat.zero_le _) |>.on e (by omega)) HO6.out B kn kc ks ⟨HK.out.len, HK.out.le, Rd.at HK.out.rd (x2.trans (s67.trans e)) (Nat.le_refl _)⟩ (by rw [HW6.out]; decide))
      simp only [Dev.cells, Sl.val] at HCr
      have ce_0 := Bx.cell HB7.out 0 _ rfl; have ce_1 := Bx.cell HB7.out 1 _ rfl
      clear hf0 hf1 hc0 hc1 hb6 hb5 hb4 cd_0 cd_1 hbx
      go_wp2_with fail
      refine (HCr.out _ (Ext.refl _)).mono ?_
      rintro e w8 ⟨⟨d, rfl, hs, hw, hd⟩, e9⟩
      have hs' : d.secv = Dev.secv ⟨⟨A2, n2, c2, xs2⟩, ⟨B2, m2, l2, ys2⟩⟩ := by rw [hs, HW6.out]; rfl
      have HS8 := Lib.hid hs'
      have HW8 := Lib.hid hw
      have HD8 := Lib.hid hd
      have HO8 := Lib.hid (show okV d.secv d.wv by have := HO6.out; rw [HW6.out] at this; rw [hs', hw]; exact this)
      clear hs hw hd hs' ce_0 ce_1
      obtain ⟨⟨A3, n3, c3, xs3⟩, ⟨B3, m3, l3, ys3⟩⟩ := d
      simp only [Dev.cells, Sl.val]
      go_upto_region 12 with (fail)
      generalize hw9 : World.alloc w8 _ = w9
      have HBc := Lib.hid (Bx.new hw9)
      simp only at HBc
      have e10 : Ext w8 w9 := by rw [← hw9]; exact (Ext.refl _).alloc _
      clear hw9
      have y9 : Ext w7 w9 := e9.trans e10
      have x9 : Ext w w9 := x2.trans (s67.trans y9)
      have y8 := e9.size
      have HBd := Lib.hid (HB7.out.ext y9)
      have HRd := Lib.hid (fun w1 (e : Ext w7 w1) j (hj : j < k) => read_abs ⟨⟨A2, n2, c2, xs2⟩, ⟨B2, m2, l2, ys2⟩⟩ w1 (HDr.out w1 e) HO6.out j (by rw [HN6.out]; exact hj))
      have HRc := Lib.hid (fun w1 (e : Ext w8 w1) j (hj : j < k) => read_abs ⟨⟨A3, n3, c3, xs3⟩, ⟨B3, m3, l3, ys3⟩⟩ w1 (HD8.out.low (Nat.zero_le _) |>.on e (Nat.le_refl _)) HO8.out j (by rw [HS8.out, HN6.out]; exact hj))
      simp only [Dev.cells, Sl.val] at HRd HRc
      go_wp2_with fail
      go_loopw [14] (fun i wr => ∃ j : Nat, j ≤ k ∧ i = .int .i64 j ∧ Ext w9 wr) (fun i _ => k - (intOf i).toNat)
      case atStart => exact ⟨0, Nat.zero_le _, rfl, Ext.refl _⟩
      case round =>
        obtain ⟨j, hj, rfl, ea⟩ := hrel
        have xr := x9.trans ea
        by_cases hlt : j < k
        · have p0 : (0 : Int) ≤ j := by omega
          have p1 : (j : Int) < k := by omega
          have hbd := HBd.out.ext ea
          have hbc := HBc.out.ext ea
          have cd_0 := Bx.cell hbd 0 _ rfl; have cd_1 := Bx.cell hbd 1 _ rfl
          have HBcr := Lib.hid hbc
          clear hbd hbc
          go_wp2_with fail
          refine (HRd.out _ (y9.trans ea) j hlt).mono ?_
          rintro e wa ⟨⟨⟨sA, sn, sc, sx⟩, rfl, hsx, hso⟩, eb⟩
          have HSX := Lib.hid hsx
          have HSO := Lib.hid hso
          clear hsx hso cd_0 cd_1
          have hbc := HBcr.out.ext eb
          have cc_0 := Bx.cell hbc 0 _ rfl; have cc_1 := Bx.cell hbc 1 _ rfl
          clear hbc
          simp only [Sl.val]
          go_wp2_with fail
          refine (HRc.out _ (e10.trans (ea.trans eb)) j hlt).mono ?_
          rintro e wb ⟨⟨⟨tA, tn, tc, tx⟩, rfl, htx, hto⟩, ec⟩
          have HTX := Lib.hid (show tx = sx by
            have h1 : tx = _ := htx
            have h2 : sx = _ := HSX.out
            rw [h1, h2, HS8.out, HW8.out, HW6.out])
          have HTO := Lib.hid hto
          clear htx hto cc_0 cc_1
          have hv1 : (convert 34 9 (.slice sA sn sc)).run Try.prog wb = .ok (.string ⟨sx.toArray⟩) wb := run_conv_str wb _ _ 5 Try.underlying34 Try.underlying5 Try.underlying9 _ _ sA sn sc sx HSO.out.at_.len (Oct.At.rdb (Oct.At.on HSO.out.at_ ec (Nat.le_refl _)))
          have hv2 : (convert 34 9 (.slice tA tn tc)).run Try.prog wb = .ok (.string ⟨sx.toArray⟩) wb := by
            rw [← HTX.out]
            exact run_conv_str wb _ _ 5 Try.underlying34 Try.underlying5 Try.underlying9 _ _ tA tn tc tx HTO.out.at_.len (Oct.At.rdb HTO.out.at_)
          simp only [Sl.val]
          go_wp2_with (go_at_call 12; refine (num_any _ _).mono ?_; rintro e wc ⟨rfl, rfl⟩)
          go_roundw
          case rel => exact ⟨j + 1, by omega, by go_num, ea.trans (eb.trans ec)⟩
          case measure => simp [intOf]; omega
        · obtain rfl : j = k := by omega
          go_wp2_with (go_at_call 12; refine (num_any _ _).mono ?_; rintro e wc ⟨rfl, rfl⟩)
          go_ret
          exact ⟨rfl, xr⟩
end Go.Proofs.Ythjpjhcbefhpbaa
