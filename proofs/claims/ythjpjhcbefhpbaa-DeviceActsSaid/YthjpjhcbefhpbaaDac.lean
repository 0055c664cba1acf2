/- The walk of DeviceActs: it returns true. -/
import Derived.Test.YthjpjhcbefhpbaaLink
namespace Go.Proofs.Ythjpjhcbefhpbaa
open Go.RowKit
set_option linter.unusedSimpArgs false
set_option linter.unusedVariables false

set_option maxRecDepth 100000 in
set_option maxHeartbeats 8000000 in
theorem acts_any (w : World) (n0 : Int) (q0 : -9223372036854775808 ≤ n0) (q1 : n0 ≤ 9223372036854775807) (A : Option Addr) (m c : Nat) (l : List Ac) (hl : Acs w A m c l) (hb : (m + 1) * 40 ≤ 140737488355328) (B : Option Addr) (kn kc : Nat) (ks : List Bool) (hk : Ks w B kn kc ks) :
    Calls Try.prog 3 #[.int .i64 n0, .slice A m c, .slice B kn kc] w fun e w' => e = .returned (.bool true) ∧ Ext w w' := by
  have HL := Lib.hid hl
  have HK := Lib.hid hk
  have HM := Lib.hid hl.len
  have HMB := Lib.hid hb
  have hm2 : m ≤ 4000000000000 := by omega
  clear hl hk hb
  obtain ⟨i0, hi0, hz0, hz1, hz2⟩ := info_parts infoAct
  go_enter Try.func3, Try.ntmps3
  go_wp2_with fail
  refine (alive_any _).mono ?_
  rintro e w1 ⟨rfl, e1⟩
  go_wp2_with fail
  refine (small_any _ _ q0 q1).mono ?_
  rintro e w2 ⟨⟨k, ⟨hk0, hk1⟩, rfl⟩, rfl⟩
  go_wp2_with fail
  refine (new_abs _ k hk0 (by omega)).mono ?_
  rintro e w2 ⟨⟨d, rfl, hs, hw, hd⟩, e2⟩
  have x2 : Ext w w2 := e1.trans e2
  clear e1 e2
  have HO := Lib.hid (show okV d.secv d.wv by rw [hs, hw]; exact new_ok k hk0 (by omega))
  have HS0 := Lib.hid hs
  have HW := Lib.hid hw
  have HD := Lib.hid hd
  clear hs hw hd
  obtain ⟨⟨A1, n1, c1, xs1⟩, ⟨B1, m1, l1, ys1⟩⟩ := d
  simp only [Dev.cells, Sl.val]
  go_upto_region 5 with (fail)
  generalize hw3 : World.alloc w2 _ = w3
  have HB := Lib.hid (Bx.new hw3)
  have e3 : Ext w2 w3 := by rw [← hw3]; exact (Ext.refl _).alloc _
  have x3 := x2.trans e3
  have z3 : w3.heap.size = w2.heap.size + 1 := by rw [← hw3]; simp
  clear hw3
  simp only at HB
  have Z3 := Lib.hid z3
  clear z3
  have k2 := mk64
  go_upto_region 7 with (fail)
  generalize hw4 : World.alloc w3 _ = w4
  have HS4 := Lib.hid (Bx.new hw4)
  have e4 : Ext w3 w4 := by rw [← hw4]; exact (Ext.refl _).alloc _
  have z4 : w4.heap.size = w3.heap.size + 1 := by rw [← hw4]; simp
  have Z4 := Lib.hid z4
  clear hw4 z4
  generalize hw5 : World.alloc w4 _ = w5
  have HN5 := Lib.hid (Bx.new hw5)
  have e5 : Ext w4 w5 := by rw [← hw5]; exact (Ext.refl _).alloc _
  have z5 : w5.heap.size = w3.heap.size + 2 := by rw [← hw5]; simp [Z4.out]
  have Z5 := Lib.hid z5
  clear hw5 z5
  have HS5 := Lib.hid (HS4.out.ext e5)
  rw [Z4.out] at HN5
  clear HS4
  have hcv : (convert 34 9 (.slice (some ⟨w5.heap.size, 0, none⟩) 64 64)).run Try.prog (w5.alloc (.cells (bytes (zeros 64)).toArray 5)) = .ok (.string ⟨(zeros 64).toArray⟩) (w5.alloc (.cells (bytes (zeros 64)).toArray 5)) :=
    run_conv_str _ _ _ 5 Try.underlying34 Try.underlying5 Try.underlying9 _ _ _ 64 64 (zeros 64) rfl (by have := rd_new w5 (bytes (zeros 64)).toArray 5; simpa using this)
  go_upto_region 8 with (fail)
  clear hcv k2
  have e6 : Ext w5 (w5.alloc (.cells (bytes (zeros 64)).toArray 5)) := (Ext.refl _).alloc _
  generalize hw6 : World.alloc w5 _ = w6 at *
  have HS6 := Lib.hid (HS5.out.ext e6)
  have HN6 := Lib.hid (HN5.out.ext e6)
  have Z6 := Lib.hid (show w6.heap.size = w3.heap.size + 3 by rw [← hw6]; simp [Z5.out])
  have x36 : Ext w3 w6 := e4.trans (e5.trans e6)
  clear hw6 HS5 HN5 e4 e5 e6
  go_wp2_with fail
  go_loopw [13] (fun i wr => ∃ j : Nat, j ≤ 16 ∧ i = .int .i64 j ∧ Hid (Bx wr w3.heap.size (List.replicate j (strv (zeros 64)) ++ List.replicate (16 - j) (.string ⟨#[]⟩))) ∧ Hid (Bx wr (w3.heap.size + 1) (List.replicate j (strv (zeros 64)) ++ List.replicate (16 - j) (.string ⟨#[]⟩))) ∧ Ext w3 wr) (fun i _ => 16 - (intOf i).toNat)
  case atStart => exact ⟨0, by omega, rfl, HS6, HN6, x36⟩
  case round =>
    obtain ⟨j, hj, rfl, HSr, HNr, e7⟩ := hrel
    by_cases hlt : j < 16
    · have p0 : (0 : Int) ≤ j := by omega
      have p1 : (j : Int) < 16 := by omega
      have hg : (List.replicate j (strv (zeros 64)) ++ List.replicate (16 - j) (.string ⟨#[]⟩))[j]? = some (.string ⟨#[]⟩) := by
        rw [List.getElem?_append_right (by simp), List.length_replicate, Nat.sub_self, List.getElem?_replicate, if_pos (by omega)]
      have cs := HSr.out.cell j _ hg
      have fs := HSr.out.frozen j _ hg
      have cn := HNr.out.cell j _ hg
      have fn := HNr.out.frozen j _ hg
      clear hg
      go_wp2_with fail
      go_roundw
      case rel =>
        refine ⟨j + 1, by omega, by go_num, Lib.hid ?_, Lib.hid ?_, (e7.setCell (by simp) _).setCell (by simp) _⟩
        · have := (HSr.out.set j (strv (zeros 64))).set_ne (p := ⟨w3.heap.size + 1, j, none⟩) (by simp) (strv (zeros 64))
          rw [fill_set _ _ _ _ hlt] at this
          exact this
        · have := (HNr.out.set_ne (p := ⟨w3.heap.size, j, none⟩) (by simp) (strv (zeros 64))).set j (strv (zeros 64))
          rw [fill_set _ _ _ _ hlt] at this
          exact this
      case measure => simp [intOf]; omega
    · obtain rfl : j = 16 := by omega
      rw [show ((16 : Nat) : Int) = 16 from rfl]
      go_wp2_with fail
      have HLk := Lib.hid (link0 k hk0 hk1)
      have HSr2 : Hid (Bx wr w3.heap.size ((List.replicate 16 (zeros 64)).map strv)) := HSr
      have HNr2 : Hid (Bx wr (w3.heap.size + 1) ((List.replicate 16 (zeros 64)).map strv)) := HNr
      generalize List.replicate 16 (zeros 64) = Z16 at HLk HSr2 HNr2
      clear HSr HNr
      go_loopw [9, 14, 15] (fun v9 v14 i wx => ∃ (j : Nat) (acts wts : List Ac) (S SA NA : SV), j ≤ m ∧ i = .int .i64 j ∧ Hid (acts.map Ac.abs = (l.take j).map (fun a => rightV k a.abs)) ∧ Hid ((S, wts.map wvA) = (acts.map Ac.abs).foldl stepA (List.replicate k (zeros 64), [])) ∧ Hid (LinkV k S (wts.map wvA) SA NA) ∧ Hid (wts.length ≤ j) ∧
        Hid (Bx wx w3.heap.size (SA.map strv)) ∧ Hid (Bx wx (w3.heap.size + 1) (NA.map strv)) ∧ Hid (Rows2 wx (w3.heap.size + 2) v9 acts v14 wts) ∧ Ext w3 wx ∧ Hid (w3.heap.size + 2 ≤ wx.heap.size)) (fun _ _ i _ => m - (intOf i).toNat)
      case atStart => exact ⟨0, [], [], _, _, _, Nat.zero_le _, rfl, Lib.hid rfl, Lib.hid rfl, HLk, Lib.hid (Nat.le_refl _), HSr2, HNr2, Lib.hid (Rows2.nil _ _), e7, Lib.hid HNr2.out.lt⟩
      case round =>
        clear HLk HSr2 HNr2
        obtain ⟨j, acts, wts, S, SA, NA, hj, rfl, HV, HT, HLk, HWl, HS, HN, HR2, e7, HZ⟩ := hrel
        by_cases hlt : j < m
        · have hjl : j < l.length := by rw [← HM.out]; exact hlt
          obtain ⟨q1, q2, hA, _, hq1, G0⟩ := rd_flat (size := 3) (fun _ => rfl) (by omega) HL.out.rd hjl
          subst hA
          have xr : Ext w wr := x3.trans e7
          have HR := Lib.hid (right_any wr l[j] k (by omega) (by omega) (((HL.out.all _ (List.getElem_mem hjl)).on xr (Nat.le_refl _)).low (Nat.zero_le _)))
          have htk := Lib.hid (show (l.take (j + 1)).map (fun a => rightV k a.abs) = (l.take j).map (fun a => rightV k a.abs) ++ [rightV k l[j].abs] by rw [List.take_succ_eq_append_getElem hjl, List.map_append]; rfl)
          have G : ∀ j' u, l[j].cells[j']? = some u → wr.cell? ⟨q1, q2 + j * 3 + j', none⟩ = some u := fun j' u hu => by rw [Below.cell xr hq1]; exact G0 j' u hu
          clear G0
          generalize l[j] = a at *
          obtain ⟨fl, pos, ⟨aA, an, ac, ax⟩⟩ := a
          have g0 := G 0 _ rfl
          have g1 := G 1 _ rfl
          have g2 := G 2 _ rfl
          simp only [Nat.add_zero, Sl.val] at g0 g2
          simp only [Ac.cells, Sl.val] at HR
          clear G
          have p0 : (0 : Int) ≤ j := by omega
          have p1 : (j : Int) < m := by omega
          go_wp2_with fail
          refine HR.out.mono ?_
          rintro e w7 ⟨⟨b, rfl, hbv, hba⟩, e8⟩
          have HBV := Lib.hid hbv
          have HBA := Lib.hid hba
          have HOK := Lib.hid (show okAV k b.abs by rw [hbv]; exact rightV_ok k (by omega) _)
          clear hbv hba HR g0 g1 g2
          have hlen : acts.length = j := by
            have := congrArg List.length HV.out
            rw [List.length_map, List.length_map, List.length_take] at this
            omega
          have HLen := Lib.hid hlen
          clear hlen
          obtain ⟨bfl, bpos, ⟨bA, bn, bc, bx⟩⟩ := b
          simp only [Ac.cells, Sl.val]
          go_upto_region 17 with (fail)
          generalize hw8 : World.alloc w7 _ = w8
          have HBb := Lib.hid (Bx.new hw8)
          simp only at HBb
          have e9 : Ext w7 w8 := by rw [← hw8]; exact (Ext.refl _).alloc _
          clear hw8
          have e10 : Ext wr w8 := e8.trans e9
          have e11 : Ext w3 w8 := e7.trans e10
          have sz8 := e10.size
          have szr := HZ.out
          have hlt7 : w7.heap.size < w8.heap.size := HBb.out.lt
          have HR8 := Lib.hid (HR2.out.ext e10)
          have HS8 := Lib.hid (HS.out.ext e10)
          have HN8 := Lib.hid (HN.out.ext e10)
          have hbk := Lib.hid (show Ac.K w8 (fun i => w3.heap.size + 2 ≤ i ∧ u9.ownBlock ≠ some i ∧ u14.ownBlock ≠ some i) ⟨bfl, bpos, ⟨bA, bn, bc, bx⟩⟩ from
            (((Ac.At.k HBA.out (Nat.le_refl _)).mono fun i _ hi => HR2.out.apart szr i hi.1)).ext e9)
          have hb9 : u9.ownBlock ≠ some w7.heap.size := (HR2.out.apart szr _ e8.size).2.1
          have hb14 : u14.ownBlock ≠ some w7.heap.size := (HR2.out.apart szr _ e8.size).2.2
          have hlow := fun g hg => (HR8.out.a.lt g hg).1
          have hS9 : u9.ownBlock ≠ some w3.heap.size := fun e => by have := hlow _ e; omega
          have hN9 : u9.ownBlock ≠ some (w3.heap.size + 1) := fun e => by have := hlow _ e; omega
          have hlow2 := fun g hg => (HR8.out.b.lt g hg).1
          have hS14 : u14.ownBlock ≠ some w3.heap.size := fun e => by have := hlow2 _ e; omega
          have hN14 : u14.ownBlock ≠ some (w3.heap.size + 1) := fun e => by have := hlow2 _ e; omega
          have HNE := Lib.hid (And.intro hb9 (And.intro hb14 (And.intro hS9 (And.intro hN9 (And.intro hS14 hN14)))))
          clear hb9 hb14 hS9 hN9 hS14 hN14 hlow hlow2
          have cb_0 := Bx.cell HBb.out 0 _ rfl; have cb_1 := Bx.cell HBb.out 1 _ rfl; have cb_2 := Bx.cell HBb.out 2 _ rfl
          have HMj := Lib.hid (show (acts.length + 1) * 40 ≤ 140737488355328 by have h1 := HLen.out; have h2 := HMB.out; omega)
          go_upto_region 18 with
            (at_builtin
             refine list_app _ rfl (.tmp 59) (.tmp 61) _ rfl 36 i0 _ 3 40 Try.underlying22 hi0 hz0 hz1 hz2 rfl (by omega) (w3.heap.size + 2) _ acts.length _ rfl (HR8.out.ext ((Ext.refl _).alloc _)).a 0 _ _ 1 1 (Ac.cells ⟨bfl, bpos, ⟨bA, bn, bc, bx⟩⟩) rfl rfl
               ((rd_new _ _ _).more (Nat.zero_le _) (Nat.le_refl _)) (ac_one _) (by simp only [maxLen]; have := HMj.out; omega) HMj.out (by simp; omega) ?_
             intro v10 w9 hown9 he9 hob hg
             have e12 : Ext w3 w9 := he9 _ (e11.alloc _) (by omega)
             have k9 : Keep (fun b => u9.ownBlock ≠ some b) w8 w9 := (Keep.of_ext ((Ext.refl _).alloc _)).grown hg (fun k hk hn => hn hk)
             have HR9 := Lib.hid (Rows2.pushA (HR8.out.ext ((Ext.refl _).alloc _)) (hbk.out.ext ((Ext.refl _).alloc _)) hown9 hg hob)
             have HB9 := Lib.hid (HBb.out.keep k9 HNE.out.1)
             have HS9 := Lib.hid (HS8.out.keep k9 HNE.out.2.2.1)
             have HN9 := Lib.hid (HN8.out.keep k9 HNE.out.2.2.2.1)
             have z9 := k9.size
             clear he9 hown9 hob hg cb_0 cb_1 cb_2)
          have HV9 := Lib.hid (show (acts ++ [(⟨bfl, bpos, ⟨bA, bn, bc, bx⟩⟩ : Ac)]).map Ac.abs = (l.take (j + 1)).map (fun a => rightV k a.abs) by rw [htk.out, List.map_append, HV.out, List.map_singleton, HBV.out])
          have HT9 := Lib.hid (show ((acts ++ [(⟨bfl, bpos, ⟨bA, bn, bc, bx⟩⟩ : Ac)]).map Ac.abs).foldl stepA (List.replicate k (zeros 64), []) = stepA (S, wts.map wvA) (bfl, bpos, bx) by rw [List.map_append, List.foldl_append, ← HT.out]; rfl)
          cases bfl
          · obtain ⟨ok1, ok2, ok3⟩ : 0 ≤ bpos ∧ bpos < (k : Int) ∧ bx.length = 64 := by
              rcases HOK.out with h | h
              · cases h
              · exact h
            obtain ⟨q, rfl⟩ : ∃ q : Nat, bpos = (q : Int) := ⟨bpos.toNat, by omega⟩
            have hq : q < k := by omega
            have r0 : (0 : Int) ≤ q := by omega
            have r1 : (q : Int) < 16 := by omega
            have hqa : (NA.map strv)[q]? = some (strv (NA[q]'(by rw [HLk.out.nl]; omega))) := by rw [List.getElem?_map, List.getElem?_eq_getElem (by rw [HLk.out.nl]; omega)]; rfl
            generalize strv (NA[q]'(by rw [HLk.out.nl]; omega)) = oldv at hqa
            have hnc := HN9.out.cell q _ hqa
            have hnf := HN9.out.frozen q _ hqa
            clear hqa
            have h0 := HB9.out.cell 0 _ rfl
            have h1 := HB9.out.cell 1 _ rfl
            have h2 := HB9.out.cell 2 _ rfl
            have hx9 := HR9.out.all _ (List.mem_append_right _ (List.mem_singleton.2 rfl))
            have hcv : (convert 34 9 (.slice bA bn bc)).run Try.prog w9 = .ok (.string ⟨bx.toArray⟩) w9 :=
              run_conv_str _ _ _ 5 Try.underlying34 Try.underlying5 Try.underlying9 _ _ _ bn bc bx hx9.data.len (hx9.data.rd.rd (lo := 0) fun _ _ => Nat.zero_le _)
            have HX9 := Lib.hid hx9
            clear hx9 ok1 ok2
            have OK3 := Lib.hid ok3
            clear ok3
            go_upto_region 21 with fail
            generalize hw10 : World.setCell w9 _ _ = w10
            have hk10 : Keep (fun b => b ≠ w3.heap.size + 1) w9 w10 := by rw [← hw10]; exact (Keep.refl _ _).setCell (p := ⟨w3.heap.size + 1, q, none⟩) (fun h => h rfl) _
            have HN10 : Hid (Bx w10 (w3.heap.size + 1) ((NA.set q bx).map strv)) := by rw [← hw10]; have := HN9.out.set q (strv bx); rw [← List.map_set] at this; exact this
            clear hw10 hnc hnf h0 h1 h2 hcv
            have HS10 := Lib.hid (HS9.out.keep hk10 (by show w3.heap.size ≠ w3.heap.size + 1; omega))
            have HB10 := Lib.hid (HB9.out.keep hk10 (by show w7.heap.size ≠ w3.heap.size + 1; have := e8.size; omega))
            have HR10 := Lib.hid (HR9.out.keep hk10 (fun b hb _ => by show b ≠ _; omega))
            have e13 : Ext w3 w10 := hk10.to_ext e12 (fun k hk => by omega)
            have z10 := hk10.size
            have cb_0 := Bx.cell HB10.out 0 _ rfl; have cb_1 := Bx.cell HB10.out 1 _ rfl; have cb_2 := Bx.cell HB10.out 2 _ rfl
            have HWj := Lib.hid (show (wts.length + 1) * 40 ≤ 140737488355328 by have h1 := HWl.out; have h2 := HMB.out; omega)
            clear hk10
            go_upto_region 15 with
              (at_builtin
               refine list_app _ rfl (.tmp 72) (.tmp 74) _ rfl 36 i0 _ 3 40 Try.underlying22 hi0 hz0 hz1 hz2 rfl (by omega) (w3.heap.size + 2) _ wts.length _ rfl (HR10.out.ext ((Ext.refl _).alloc _)).b 0 _ _ 1 1 (Ac.cells ⟨false, (q : Int), ⟨bA, bn, bc, bx⟩⟩) rfl rfl
                 ((rd_new _ _ _).more (Nat.zero_le _) (Nat.le_refl _)) (ac_one _) (by simp only [maxLen]; have := HWj.out; omega) HWj.out (by simp; omega) ?_
               intro v15 w11 hown11 he11 hob hg
               have e14 : Ext w3 w11 := he11 _ (e13.alloc _) (by omega)
               have k11 : Keep (fun b => u14.ownBlock ≠ some b) w10 w11 := (Keep.of_ext ((Ext.refl _).alloc _)).grown hg (fun k hk hn => hn hk)
               have HR11 := Lib.hid (Rows2.pushB (HR10.out.ext ((Ext.refl _).alloc _)) (x := ⟨false, (q : Int), ⟨bA, bn, bc, bx⟩⟩) (by simp) hown11 hg hob)
               have HS11 := Lib.hid (HS10.out.keep k11 HNE.out.2.2.2.2.1)
               have HN11 := Lib.hid (HN10.out.keep k11 HNE.out.2.2.2.2.2)
               have z11 := k11.size
               clear he11 hown11 hob hg cb_0 cb_1 cb_2)
            go_wp2_with fail
            go_roundw
            case rel =>
              refine ⟨j + 1, _, _, S, SA, NA.set q bx, by omega, by go_num, HV9, Lib.hid ?_, Lib.hid ?_, Lib.hid ?_, HS11, HN11, HR11, e14, Lib.hid (by omega)⟩
              · rw [HT9.out, List.map_append]; rfl
              · rw [List.map_append]; exact link_write HLk.out (by omega) hq OK3.out
              · have := HWl.out; simp; omega
            case measure => simp [intOf]; omega
          · obtain ⟨s0, s1, s2, s3, s4, s5, s6, s7, s8, s9, s10, s11, s12, s13, s14, s15, hSA⟩ := list16 SA HLk.out.sl
            obtain ⟨t0, t1, t2, t3, t4, t5, t6, t7, t8, t9, t10, t11, t12, t13, t14, t15, hNA⟩ := list16 NA HLk.out.nl
            subst hSA hNA
            have hs : Bx w9 w3.heap.size [.string ⟨s0.toArray⟩, .string ⟨s1.toArray⟩, .string ⟨s2.toArray⟩, .string ⟨s3.toArray⟩, .string ⟨s4.toArray⟩, .string ⟨s5.toArray⟩, .string ⟨s6.toArray⟩, .string ⟨s7.toArray⟩, .string ⟨s8.toArray⟩, .string ⟨s9.toArray⟩, .string ⟨s10.toArray⟩, .string ⟨s11.toArray⟩, .string ⟨s12.toArray⟩, .string ⟨s13.toArray⟩, .string ⟨s14.toArray⟩, .string ⟨s15.toArray⟩] := HS9.out
            have hn : Bx w9 (w3.heap.size + 1) [.string ⟨t0.toArray⟩, .string ⟨t1.toArray⟩, .string ⟨t2.toArray⟩, .string ⟨t3.toArray⟩, .string ⟨t4.toArray⟩, .string ⟨t5.toArray⟩, .string ⟨t6.toArray⟩, .string ⟨t7.toArray⟩, .string ⟨t8.toArray⟩, .string ⟨t9.toArray⟩, .string ⟨t10.toArray⟩, .string ⟨t11.toArray⟩, .string ⟨t12.toArray⟩, .string ⟨t13.toArray⟩, .string ⟨t14.toArray⟩, .string ⟨t15.toArray⟩] := HN9.out
            have h0 := HB9.out.cell 0 _ rfl
            have a0 := hs.cell 0 _ rfl; have fa0 := hs.frozen 0 _ rfl
            have a1 := hs.cell 1 _ rfl; have fa1 := hs.frozen 1 _ rfl
            have a2 := hs.cell 2 _ rfl; have fa2 := hs.frozen 2 _ rfl
            have a3 := hs.cell 3 _ rfl; have fa3 := hs.frozen 3 _ rfl
            have a4 := hs.cell 4 _ rfl; have fa4 := hs.frozen 4 _ rfl
            have a5 := hs.cell 5 _ rfl; have fa5 := hs.frozen 5 _ rfl
            have a6 := hs.cell 6 _ rfl; have fa6 := hs.frozen 6 _ rfl
            have a7 := hs.cell 7 _ rfl; have fa7 := hs.frozen 7 _ rfl
            have a8 := hs.cell 8 _ rfl; have fa8 := hs.frozen 8 _ rfl
            have a9 := hs.cell 9 _ rfl; have fa9 := hs.frozen 9 _ rfl
            have a10 := hs.cell 10 _ rfl; have fa10 := hs.frozen 10 _ rfl
            have a11 := hs.cell 11 _ rfl; have fa11 := hs.frozen 11 _ rfl
            have a12 := hs.cell 12 _ rfl; have fa12 := hs.frozen 12 _ rfl
            have a13 := hs.cell 13 _ rfl; have fa13 := hs.frozen 13 _ rfl
            have a14 := hs.cell 14 _ rfl; have fa14 := hs.frozen 14 _ rfl
            have a15 := hs.cell 15 _ rfl; have fa15 := hs.frozen 15 _ rfl
            have b0 := hn.cell 0 _ rfl
            have b1 := hn.cell 1 _ rfl
            have b2 := hn.cell 2 _ rfl
            have b3 := hn.cell 3 _ rfl
            have b4 := hn.cell 4 _ rfl
            have b5 := hn.cell 5 _ rfl
            have b6 := hn.cell 6 _ rfl
            have b7 := hn.cell 7 _ rfl
            have b8 := hn.cell 8 _ rfl
            have b9 := hn.cell 9 _ rfl
            have b10 := hn.cell 10 _ rfl
            have b11 := hn.cell 11 _ rfl
            have b12 := hn.cell 12 _ rfl
            have b13 := hn.cell 13 _ rfl
            have b14 := hn.cell 14 _ rfl
            have b15 := hn.cell 15 _ rfl
            have Hs := Lib.hid hs
            have Hn := Lib.hid hn
            clear hs hn
            go_upto_region 15 with fail
            clear h0 a0 fa0 b0 a1 fa1 b1 a2 fa2 b2 a3 fa3 b3 a4 fa4 b4 a5 fa5 b5 a6 fa6 b6 a7 fa7 b7 a8 fa8 b8 a9 fa9 b9 a10 fa10 b10 a11 fa11 b11 a12 fa12 b12 a13 fa13 b13 a14 fa14 b14 a15 fa15 b15
            generalize hwx : World.setCell (World.setCell (World.setCell (World.setCell (World.setCell (World.setCell (World.setCell (World.setCell (World.setCell (World.setCell (World.setCell (World.setCell (World.setCell (World.setCell (World.setCell (World.setCell w9 _ _) _ _) _ _) _ _) _ _) _ _) _ _) _ _) _ _) _ _) _ _) _ _) _ _) _ _) _ _) _ _ = wx
            obtain ⟨hp1, hp2⟩ := Hs.out.put16 hwx
            have HP1 := Lib.hid hp1
            have HN10 := Lib.hid (Hn.out.keep hp2 (by show w3.heap.size + 1 ≠ w3.heap.size; omega))
            have HR10 := Lib.hid ((HR9.out.keep hp2 (fun b hb _ => by show b ≠ _; omega)).drop)
            have e13 : Ext w3 wx := hp2.to_ext e12 (fun k hk => by show k ≠ _; omega)
            have z10 := hp2.size
            clear hwx hp1 hp2
            go_wp2_with fail
            go_roundw
            case rel =>
              refine ⟨j + 1, _, [], _, [t0, t1, t2, t3, t4, t5, t6, t7, t8, t9, t10, t11, t12, t13, t14, t15], [t0, t1, t2, t3, t4, t5, t6, t7, t8, t9, t10, t11, t12, t13, t14, t15], by omega, by go_num, HV9, Lib.hid ?_, Lib.hid (link_flush HLk.out), Lib.hid (Nat.zero_le _), HP1, HN10, HR10, e13, Lib.hid (by omega)⟩
              rw [HT9.out]; rfl
            case measure => simp [intOf]; omega
        · obtain rfl : j = m := by omega
          have HV2 := Lib.hid (show acts.map Ac.abs = l.map (fun a => rightV k a.abs) by rw [HV.out, List.take_of_length_le (by rw [← HM.out]; exact Nat.le_refl _)])
          have hlen : acts.length = j := by
            have := congrArg List.length HV2.out
            rw [List.length_map, List.length_map] at this
            rw [this, HM.out]
          have HLen := Lib.hid hlen
          clear hlen HV hlt
          obtain ⟨A4, c4, rfl, _, _, hac⟩ := HR2.out.acs
          have HAC := Lib.hid hac
          obtain ⟨B4, c5, rfl, _, _, _⟩ := own_form HR2.out.b
          clear hac
          have hb3 := HB.out.ext e7
          have cd_0 := Bx.cell hb3 0 _ rfl; have cd_1 := Bx.cell hb3 1 _ rfl
          have fd_0 := Bx.frozen hb3 0 _ rfl; have fd_1 := Bx.frozen hb3 1 _ rfl
          have HB3 := Lib.hid hb3
          clear hb3
          have xr : Ext w wr := x3.trans e7
          have hDw : Ext w2 wr := e3.trans e7
          have HDo := Lib.hid (do_abs ⟨⟨A1, n1, c1, xs1⟩, ⟨B1, m1, l1, ys1⟩⟩ wr ((HD.out.on hDw (Nat.le_refl _)).low (Nat.zero_le _)) HO.out A4 acts.length c4 acts HAC.out (fun a ha => by
            have h1 : a.abs ∈ acts.map Ac.abs := List.mem_map_of_mem ha
            rw [HV2.out] at h1
            obtain ⟨y, _, hy⟩ := List.mem_map.1 h1
            have h3 := rightV_ok k (by omega) y.abs
            rw [hy] at h3
            rw [HS0.out, List.length_replicate]
            exact h3) (by have h1 := HLen.out; have h2 := HMB.out; rw [HW.out]; simp; omega))
          simp only [Dev.cells, Sl.val] at HDo
          go_wp2_with fail
          refine HDo.out.mono ?_
          rintro e wa ⟨⟨d, rfl, hs, hw, hd⟩, ea⟩
          rw [HS0.out, HW.out, doV_A, ← HT.out] at hs hw
          simp only at hs hw
          have HS2 := Lib.hid hs
          have HW2 := Lib.hid hw
          have HD2 := Lib.hid hd
          have HO2 := Lib.hid (show okV d.secv d.wv by rw [hs, hw]; exact HLk.out.ok)
          have HM2 := Lib.hid (show d.waits.n = wts.length by rw [← wv_len hd, hw, List.length_map])
          clear hs hw hd HDo cd_0 cd_1 fd_0 fd_1
          obtain ⟨⟨A2, n2, c2, xs2⟩, ⟨B2, m2, l2, ys2⟩⟩ := d
          obtain rfl : m2 = wts.length := HM2.out
          have hb4 := HB3.out.ext ea
          have cd_0 := Bx.cell hb4 0 _ rfl; have cd_1 := Bx.cell hb4 1 _ rfl
          have fd_0 := Bx.frozen hb4 0 _ rfl; have fd_1 := Bx.frozen hb4 1 _ rfl
          simp only [Dev.cells, Sl.val]
          go_upto_region 23 with fail
          generalize hwb : World.setCell (World.setCell wa _ _) _ _ = wb
          have HBd := Lib.hid (hb4.put2 hwb)
          have kb : Keep (fun b => b ≠ w2.heap.size) wa wb := by rw [← hwb]; exact ((Keep.refl _ _).setCell (p := ⟨w2.heap.size, 0, none⟩) (fun h => h rfl) _).setCell (p := ⟨w2.heap.size, 1, none⟩) (fun h => h rfl) _
          clear hwb hb4 cd_0 cd_1 fd_0 fd_1
          have zz3 := Z3.out
          have za := ea.size
          have zb := kb.size
          have zr := hDw.size
          have zr3 := e7.size
          have zr4 := HZ.out
          have zw2 := x2.size
          have HDb := Lib.hid ((HD2.out.low (lo' := w3.heap.size + 2) (by omega)).keep kb (Nat.le_refl _) (fun b h1 h2 => by show b ≠ _; omega))
          have HSb := Lib.hid ((HS.out.ext ea).keep kb (by show w3.heap.size ≠ w2.heap.size; omega))
          have HNb := Lib.hid ((HN.out.ext ea).keep kb (by show w3.heap.size + 1 ≠ w2.heap.size; omega))
          have HRb := Lib.hid ((HR2.out.ext ea).keep kb (fun b hb _ => by show b ≠ _; omega))
          have xb : Ext w wb := kb.to_ext (xr.trans ea) (fun i hi => by show i ≠ _; omega)
          have Zs := Lib.hid (show w3.heap.size = w2.heap.size + 1 from zz3)
          clear zz3 HS HN HR2 HAC
          have cd_0 := Bx.cell HBd.out 0 _ rfl; have cd_1 := Bx.cell HBd.out 1 _ rfl
          have HCr := Lib.hid (crash_abs ⟨⟨A2, n2, c2, xs2⟩, ⟨B2, wts.length, l2, ys2⟩⟩ wb (HDb.out.low (Nat.zero_le _) |>.imp fun _ _ h => h.more (Nat.le_refl _) kb.size) HO2.out B kn kc ks ⟨HK.out.len, HK.out.le, Rd.at HK.out.rd xb (Nat.le_refl _)⟩ (by rw [HW2.out, List.length_map]; have h1 := HWl.out; have h2 := HMB.out; omega))
          simp only [Dev.cells, Sl.val] at HCr
          go_wp2_with (first | (go_at_call 12; refine (num_any _ _).mono ?_; rintro e wc ⟨rfl, rfl⟩) | fail)
          refine HCr.out.mono ?_
          rintro e wc ⟨⟨d, rfl, hs, hw, hd⟩, ec⟩
          have HS3 := Lib.hid (show d.secv = setV (keepB ks) (wts.map wvA) S wts.length by rw [hs, HS2.out, HW2.out, List.length_map])
          have HW3 := Lib.hid hw
          have HD3 := Lib.hid hd
          have HO3 := Lib.hid (show okV d.secv d.wv by rw [hs, hw]; exact set_ok _ HO2.out _)
          have HM3 := Lib.hid (show d.waits.n = 0 by rw [← wv_len hd, hw]; rfl)
          have HN3 := Lib.hid (show d.secs.n = k by rw [← secv_len hd, hs, (setV_ok _ _ _ HO2.out _).1, HS2.out, HLk.out.len])
          clear hs hw hd HCr cd_0 cd_1
          obtain ⟨⟨A3, n3, c3, xs3⟩, ⟨B3, m3, l3, ys3⟩⟩ := d
          obtain rfl : m3 = 0 := HM3.out
          obtain rfl : k = n3 := HN3.out.symm
          simp only [Dev.cells, Sl.val]
          go_upto_region 26 with fail
          generalize hwd : World.alloc wc _ = wd
          have HBc := Lib.hid (Bx.new hwd)
          simp only at HBc
          have ed : Ext wc wd := by rw [← hwd]; exact (Ext.refl _).alloc _
          clear hwd
          have xd : Ext w wd := xb.trans (ec.trans ed)
          have xbd : Ext wb wd := ec.trans ed
          have HSd := Lib.hid (HSb.out.ext xbd)
          have HNd := Lib.hid (HNb.out.ext xbd)
          have HRd2 := Lib.hid (HRb.out.ext xbd)
          have HDd := Lib.hid (HDb.out.on xbd kb.size)
          have HCd := Lib.hid (HD3.out.on ed (Nat.le_refl _))
          have HBdd := Lib.hid (HBd.out.ext xbd)
          have zc := ec.size
          clear HSb HNb HRb HDb HBd
          have hle3 := HWl.out
          have hkle := HK.out.le
          go_wp2_with fail
          go_loopw [20] (fun i wx => ∃ (i' : Nat) (SA' : SV), i' ≤ wts.length ∧ i = .int .i64 i' ∧ Hid (Bx wx w3.heap.size (SA'.map strv)) ∧ Hid (SA'.length = 16) ∧ Hid (∀ t, t < k → SA'[t]? = (setV (keepB ks) (wts.map wvA) S i')[t]?) ∧ Hid (Keep (fun b => b ≠ w3.heap.size) wd wx)) (fun i _ => wts.length - (intOf i).toNat)
          case atStart => exact ⟨0, SA, Nat.zero_le _, rfl, HSd, Lib.hid HLk.out.sl, Lib.hid HLk.out.s, Lib.hid (Keep.refl _ _)⟩
          case round =>
            obtain ⟨i, SA', hi, rfl, HSx, HSl, HSv, HKx⟩ := hrel
            have xx : Ext w wr := HKx.out.to_ext xd (fun q hq => by show q ≠ _; have := Zs.out; omega)
            have HBdx := Lib.hid (HBdd.out.keep HKx.out (by show w2.heap.size ≠ _; have := Zs.out; omega))
            have HBcx := Lib.hid (HBc.out.keep HKx.out (by show wc.heap.size ≠ _; have := Zs.out; omega))
            have HNx := Lib.hid (HNd.out.keep HKx.out (by show w3.heap.size + 1 ≠ _; omega))
            have HRx := Lib.hid (HRd2.out.keep HKx.out (fun b hb _ => by show b ≠ _; omega))
            have r0 : (0 : Int) ≤ i := by omega
            by_cases hgo : i < wts.length ∧ i < kn
            · obtain ⟨hg1, hg2⟩ := hgo
              have r1 : (i : Int) < wts.length := by omega
              have r2 : (i : Int) < kn := by omega
              have hkl : i < ks.length := by rw [← HK.out.len]; exact hg2
              obtain ⟨qb, qo, hqA, _, hqb, hqc⟩ := rd_flat (size := 1) (fun _ => rfl) (by omega) (Rd.at HK.out.rd xx (Nat.le_refl _)) hkl
              subst hqA
              have hkc : wr.cell? ⟨qb, qo + i, none⟩ = some (.bool ks[i]) := by simpa using hqc 0 _ rfl
              have HKi := Lib.hid (show keepB ks i = ks[i] by simp [keepB, hkl])
              clear hqc
              generalize ks[i] = kb at *
              obtain ⟨wb', wo, hwA, _, hwb', hwc⟩ := rd_flat (size := 3) (fun _ => rfl) (by omega) (Rd.of_own HRx.out.b) hg1
              subst hwA
              have hx9 := HRx.out.all _ (HRx.out.sub _ (List.getElem_mem hg1))
              have hwv := HLk.out.ok.waits (wvA wts[i]) (List.mem_map_of_mem (List.getElem_mem hg1))
              have hst := Lib.hid (show setV (keepB ks) (wts.map wvA) S (i + 1) = if keepB ks i then (setV (keepB ks) (wts.map wvA) S i).set (wvA wts[i]).1.toNat (wvA wts[i]).2 else setV (keepB ks) (wts.map wvA) S i by
                rw [setV, List.getElem?_map, List.getElem?_eq_getElem hg1]; rfl)
              generalize wts[i] = a at *
              obtain ⟨fl, ps, ⟨aA, an, ac, ax⟩⟩ := a
              obtain ⟨ok1, ok2, ok3⟩ := hwv
              obtain ⟨q, hq⟩ : ∃ q : Nat, ps = (q : Int) := ⟨ps.toNat, by have : 0 ≤ ps := ok1; omega⟩
              subst hq
              have hqk : q < k := by have h1 : (q : Int) < (S.length : Int) := ok2; rw [HLk.out.len] at h1; omega
              have OK3 := Lib.hid (show ax.length = 64 from ok3)
              clear ok1 ok2 ok3
              have w0 := hwc 1 _ rfl
              have w1' := hwc 2 _ rfl
              simp only [Sl.val] at w1'
              clear hwc
              have s0 : (0 : Int) ≤ q := by omega
              have s1 : (q : Int) < 16 := by omega
              cases kb
              · go_wp2_with fail
                go_roundw
                case rel => exact ⟨i + 1, SA', by omega, by go_num, HSx, HSl, Lib.hid (by rw [hst.out, HKi.out]; exact HSv.out), HKx⟩
                case measure => simp [intOf]; omega
              · have hqa : (SA'.map strv)[q]? = some (strv (SA'[q]'(by rw [HSl.out]; omega))) := by rw [List.getElem?_map, List.getElem?_eq_getElem (by rw [HSl.out]; omega)]; rfl
                generalize strv (SA'[q]'(by rw [HSl.out]; omega)) = oldv at hqa
                have hnc := HSx.out.cell q _ hqa
                have hnf := HSx.out.frozen q _ hqa
                clear hqa
                have hcv : (convert 34 9 (.slice aA an ac)).run Try.prog wr = .ok (.string ⟨ax.toArray⟩) wr :=
                  run_conv_str _ _ _ 5 Try.underlying34 Try.underlying5 Try.underlying9 _ _ _ an ac ax hx9.data.len (hx9.data.rd.rd (lo := 0) fun _ _ => Nat.zero_le _)
                have hcv2 : (convert 34 9 (.slice aA an ac)).run Try.prog wr.drew = .ok (.string ⟨ax.toArray⟩) wr.drew :=
                  run_conv_str _ _ _ 5 Try.underlying34 Try.underlying5 Try.underlying9 _ _ _ an ac ax hx9.data.len (hx9.data.rd.rd (lo := 0) fun _ _ => Nat.zero_le _).drew
                clear hx9
                go_wp2_with fail
                refine rgnE (S := fun w' => w' = wr.drew) (by kernel_rfl) ?_ (fun hHeld => ?_)
                · rfl
                refine takeE 0 (v := ?_) rfl (by kernel_rfl) (by kernel_rfl) (by kernel_rfl) (by kernel_rfl) (fun _ _ _ h => h) (by kernel_rfl) ?_ (by assumption) ?_; rotate_left; (focus (intro w hSw; (try dsimp only at hSw); (try go_split_ands); go_simp <;> with_reducible rfl)); try simp only [Act.put, List.setIfInBounds_toArray, List.set_cons_zero, List.set_cons_succ]
                refine takeE 1 (v := ?_) rfl (by kernel_rfl) (by kernel_rfl) (by kernel_rfl) (by kernel_rfl) (fun _ _ _ h => h) (by kernel_rfl) ?_ (by assumption) ?_; rotate_left; (focus (intro w hSw; (try dsimp only at hSw); (try go_split_ands); go_simp <;> with_reducible rfl)); try simp only [Act.put, List.setIfInBounds_toArray, List.set_cons_zero, List.set_cons_succ]
                refine takeE 2 (v := ?_) rfl (by kernel_rfl) (by kernel_rfl) (by kernel_rfl) (by kernel_rfl) (fun _ _ _ h => h) (by kernel_rfl) ?_ (by assumption) ?_; rotate_left; (focus (intro w hSw; (try dsimp only at hSw); (try go_split_ands); go_simp <;> with_reducible rfl)); try simp only [Act.put, List.setIfInBounds_toArray, List.set_cons_zero, List.set_cons_succ]
                refine takeE 3 (v := ?_) rfl (by kernel_rfl) (by kernel_rfl) (by kernel_rfl) (by kernel_rfl) (fun _ _ _ h => h) (by kernel_rfl) ?_ (by assumption) ?_; rotate_left; (focus (intro w hSw; (try dsimp only at hSw); (try go_split_ands); go_simp <;> with_reducible rfl)); try simp only [Act.put, List.setIfInBounds_toArray, List.set_cons_zero, List.set_cons_succ]
                refine takeE 4 (v := ?_) rfl (by kernel_rfl) (by kernel_rfl) (by kernel_rfl) (by kernel_rfl) (fun _ _ _ h => h) (by kernel_rfl) ?_ (by assumption) ?_; rotate_left; (focus (intro w hSw; (try dsimp only at hSw); (try go_split_ands); go_simp <;> with_reducible rfl)); try simp only [Act.put, List.setIfInBounds_toArray, List.set_cons_zero, List.set_cons_succ]
                refine takeE 5 (v := ?_) rfl (by kernel_rfl) (by kernel_rfl) (by kernel_rfl) (by kernel_rfl) (fun _ _ _ h => h) (by kernel_rfl) ?_ (by assumption) ?_; rotate_left; (focus (intro w hSw; (try dsimp only at hSw); (try go_split_ands); go_simp <;> with_reducible rfl)); try simp only [Act.put, List.setIfInBounds_toArray, List.set_cons_zero, List.set_cons_succ]
                refine takeE 6 (v := ?_) rfl (by kernel_rfl) (by kernel_rfl) (by kernel_rfl) (by kernel_rfl) (fun _ _ _ h => h) (by kernel_rfl) ?_ (by assumption) ?_; rotate_left; (focus (intro w hSw; (try dsimp only at hSw); (try go_split_ands); go_simp <;> with_reducible rfl)); try simp only [Act.put, List.setIfInBounds_toArray, List.set_cons_zero, List.set_cons_succ]
                refine takeE 7 (v := ?_) rfl (by kernel_rfl) (by kernel_rfl) (by kernel_rfl) (by kernel_rfl) (fun _ _ _ h => h) (by kernel_rfl) ?_ (by assumption) ?_; rotate_left; (focus (intro w hSw; (try dsimp only at hSw); (try go_split_ands); go_simp <;> with_reducible rfl)); try simp only [Act.put, List.setIfInBounds_toArray, List.set_cons_zero, List.set_cons_succ]
                refine takeE 8 (v := ?_) rfl (by kernel_rfl) (by kernel_rfl) (by kernel_rfl) (by kernel_rfl) (fun _ _ _ h => h) (by kernel_rfl) ?_ (by assumption) ?_; rotate_left; (focus (intro w hSw; (try dsimp only at hSw); (try go_split_ands); go_simp <;> with_reducible rfl)); try simp only [Act.put, List.setIfInBounds_toArray, List.set_cons_zero, List.set_cons_succ]
                refine takeE 9 (v := ?_) rfl (by kernel_rfl) (by kernel_rfl) (by kernel_rfl) (by kernel_rfl) (fun _ _ _ h => h) (by kernel_rfl) ?_ (by assumption) ?_; rotate_left; (focus (intro w hSw; (try dsimp only at hSw); (try go_split_ands); go_simp <;> with_reducible rfl)); try simp only [Act.put, List.setIfInBounds_toArray, List.set_cons_zero, List.set_cons_succ]
                refine takeE 10 (v := ?_) rfl (by kernel_rfl) (by kernel_rfl) (by kernel_rfl) (by kernel_rfl) (fun _ _ _ h => h) (by kernel_rfl) ?_ (by assumption) ?_; rotate_left; (focus (intro w hSw; (try dsimp only at hSw); (try go_split_ands); go_simp <;> with_reducible rfl)); try simp only [Act.put, List.setIfInBounds_toArray, List.set_cons_zero, List.set_cons_succ]
                refine takeE 11 (v := ?_) rfl (by kernel_rfl) (by kernel_rfl) (by kernel_rfl) (by kernel_rfl) (fun _ _ _ h => h) (by kernel_rfl) ?_ (by assumption) ?_; rotate_left; (focus (intro w hSw; (try dsimp only at hSw); (try go_split_ands); go_simp <;> with_reducible rfl)); try simp only [Act.put, List.setIfInBounds_toArray, List.set_cons_zero, List.set_cons_succ]
                refine lastE 12 rfl (by kernel_rfl) (by kernel_rfl) (by kernel_rfl) (by kernel_rfl) (fun K hK => ?_); (try go_simp)
                refine hK.out _ _ ?_; clear hK K; try simp only [Act.put, List.setIfInBounds_toArray, List.set_cons_zero, List.set_cons_succ]
                go_wp2_with fail
                go_roundw
                case rel =>
                  refine ⟨i + 1, SA'.set q ax, by omega, by go_num, Lib.hid ?_, Lib.hid (by rw [List.length_set]; exact HSl.out), Lib.hid (fun t ht => ?_), Lib.hid ?_⟩
                  · have := (HSx.out.set q (strv ax)).ext (Ext.refl _).drew
                    rw [← List.map_set] at this
                    exact this
                  · rw [hst.out, HKi.out]
                    show _ = ((setV (keepB ks) (wts.map wvA) S i).set q ax)[t]?
                    rw [List.getElem?_set, List.getElem?_set, HSv.out t ht, HSl.out, (setV_ok _ _ _ HLk.out.ok i).1, HLk.out.len]
                    by_cases e : q = t
                    · rw [if_pos e, if_pos e, if_pos (by omega), if_pos (by omega)]
                    · rw [if_neg e, if_neg e]
                  · exact (HKx.out.setCell (p := ⟨w3.heap.size, q, none⟩) (fun h => h rfl) _).ext (Ext.refl _).drew
                case measure => simp [intOf]; omega
            · have HSe := Lib.hid (show ∀ t, t < k → SA'[t]? = (setV (keepB ks) (wts.map wvA) S wts.length)[t]? from fun t ht => by
                rw [HSv.out t ht]
                by_cases e : i = wts.length
                · rw [e]
                · rw [setV_past ks S _ wts.length i (by rw [← HK.out.len]; omega) hi])
              have hcase : (i < wts.length) ∨ (i = wts.length) := by omega
              have HRd := Lib.hid (fun w1 (e : Ext wr w1) t (ht : t < k) => read_abs ⟨⟨A2, n2, c2, xs2⟩, ⟨B2, wts.length, l2, ys2⟩⟩ w1 (((HDd.out.keep HKx.out (Nat.le_refl _) (fun b h1 h2 => by show b ≠ _; omega)).low (Nat.zero_le _)).on e HKx.out.size) HO2.out t (by rw [HS2.out, HLk.out.len]; exact ht))
              have HRc := Lib.hid (fun w1 (e : Ext wr w1) t (ht : t < k) => read_abs ⟨⟨A3, k, c3, xs3⟩, ⟨B3, 0, l3, ys3⟩⟩ w1 (((HCd.out.keep HKx.out (Nat.le_refl _) (fun b h1 h2 => by show b ≠ _; omega)).low (Nat.zero_le _)).on e HKx.out.size) HO3.out t (by rw [HS3.out, (setV_ok _ _ _ HLk.out.ok _).1, HLk.out.len]; exact ht))
              simp only [Dev.cells, Sl.val] at HRd HRc
              have zwc := HBcx.out.lt
              clear HSd HNd HRd2 HDd HBdd HBc
              have hgo2 : (i < wts.length ∧ kn ≤ i) ∨ i = wts.length := by omega
              have HGX := Lib.hid (And.intro HSx.out HNx.out)
              rcases hgo2 with ⟨g1, g2⟩ | g1
              all_goals
                first
                  | (have r1 : (i : Int) < wts.length := by omega)
                  | subst g1
                try (have r2 : (kn : Int) ≤ i := by omega)
                go_wp2_with fail
                go_loopw [21] (fun s wy => ∃ t : Nat, t ≤ k ∧ s = .int .i64 t ∧ Ext wr wy) (fun s _ => k - (intOf s).toNat)
                case atStart => exact ⟨0, Nat.zero_le _, rfl, Ext.refl _⟩
                case round =>
                  obtain ⟨t, ht, rfl, ea9⟩ := hrel
                  by_cases hlt : t < k
                  · have t0 : (0 : Int) ≤ t := by omega
                    have t1 : (t : Int) < k := by omega
                    have t2 : (t : Int) < 16 := by omega
                    have hbd := HBdx.out.ext ea9
                    have hbc := HBcx.out.ext ea9
                    have cd_0 := Bx.cell hbd 0 _ rfl; have cd_1 := Bx.cell hbd 1 _ rfl
                    have HBcr := Lib.hid hbc
                    clear hbd hbc
                    go_wp2_with fail
                    refine (HRd.out _ ea9 t hlt).mono ?_
                    rintro e wf ⟨⟨⟨sA, sn, sc, sx⟩, rfl, hsx, hso⟩, eb⟩
                    have HSX := Lib.hid hsx
                    have HSO := Lib.hid hso
                    clear hsx hso cd_0 cd_1
                    have hbc := HBcr.out.ext eb
                    have cc_0 := Bx.cell hbc 0 _ rfl; have cc_1 := Bx.cell hbc 1 _ rfl
                    clear hbc
                    simp only [Sl.val]
                    go_wp2_with fail
                    refine (HRc.out _ (ea9.trans eb) t hlt).mono ?_
                    rintro e wg ⟨⟨⟨tA, tn, tc, tx⟩, rfl, htx, hto⟩, eg⟩
                    have HTO := Lib.hid hto
                    have HTX := Lib.hid htx
                    clear htx hto cc_0 cc_1
                    have ey := ea9.trans (eb.trans eg)
                    have hcs := (HGX.out.1.ext ey).cell t (strv tx) (by
                      rw [List.getElem?_map, HSe.out t hlt]
                      have h1 : tx = _ := HTX.out
                      rw [HS3.out, HW3.out] at h1
                      have h2 : t < (setV (keepB ks) (wts.map wvA) S wts.length).length := by rw [(setV_ok _ _ _ HLk.out.ok _).1, HLk.out.len]; exact hlt
                      rw [List.getElem?_eq_getElem h2, h1]
                      simp [readV, List.getD, List.getElem?_eq_getElem h2])
                    have hcn := (HGX.out.2.ext ey).cell t (strv sx) (by
                      rw [List.getElem?_map, HLk.out.n t hlt]
                      have h1 : sx = _ := HSX.out
                      rw [HS2.out, HW2.out] at h1
                      rw [h1]
                      rfl)
                    simp only [strv] at hcs hcn
                    have hv1 : (convert 34 9 (.slice sA sn sc)).run Try.prog wg.drew = .ok (.string ⟨sx.toArray⟩) wg.drew := run_conv_str _ _ _ 5 Try.underlying34 Try.underlying5 Try.underlying9 _ _ sA sn sc sx HSO.out.at_.len (Oct.At.rdb (Oct.At.on HSO.out.at_ eg (Nat.le_refl _))).drew
                    have hv2 : (convert 34 9 (.slice tA tn tc)).run Try.prog wg.drew = .ok (.string ⟨tx.toArray⟩) wg.drew := run_conv_str _ _ _ 5 Try.underlying34 Try.underlying5 Try.underlying9 _ _ tA tn tc tx HTO.out.at_.len (Oct.At.rdb HTO.out.at_).drew
                    simp only [Sl.val]
                    go_wp2_with fail
                    refine wp_region_held_drew (S := fun w' => w' = wg.drew) (by kernel_rfl) rfl (fun hHeld => ?_)
                    refine takeL 0 (v := ?_) rfl (by kernel_rfl) (by kernel_rfl) (by kernel_rfl) (fun _ _ _ h => h) (by kernel_rfl) ?_ (by assumption) ?_; rotate_left; (focus (intro w hSw; (try dsimp only at hSw); go_simp <;> with_reducible rfl)); try simp only [Act.put, List.setIfInBounds_toArray, List.set_cons_zero, List.set_cons_succ]
                    refine takeL 2 (v := ?_) rfl (by kernel_rfl) (by kernel_rfl) (by kernel_rfl) (fun _ _ _ h => h) (by kernel_rfl) ?_ (by assumption) ?_; rotate_left; (focus (intro w hSw; (try dsimp only at hSw); go_simp <;> with_reducible rfl)); try simp only [Act.put, List.setIfInBounds_toArray, List.set_cons_zero, List.set_cons_succ]
                    refine oneL 1 rfl (by kernel_rfl) (by kernel_rfl) (fun K hK => ?_); go_simp
                    refine (num_any _ _).mono ?_
                    rintro e wh ⟨rfl, rfl⟩
                    go_wp2_with fail
                    refine hK.out _ _ rfl (fun hHeld => ?_)
                    clear hK K
                    try simp only [Act.put, List.setIfInBounds_toArray, List.set_cons_zero, List.set_cons_succ]
                    refine oneL 3 rfl (by kernel_rfl) (by kernel_rfl) (fun K hK => ?_); go_simp
                    refine (num_any _ _).mono ?_
                    rintro e wh ⟨rfl, rfl⟩
                    go_wp2_with fail
                    refine hK.out _ _ rfl (fun hHeld => ?_)
                    clear hK K
                    try simp only [Act.put, List.setIfInBounds_toArray, List.set_cons_zero, List.set_cons_succ]
                    refine takeL 4 (v := ?_) rfl (by kernel_rfl) (by kernel_rfl) (by kernel_rfl) (fun _ _ _ h => h) (by kernel_rfl) ?_ (by assumption) ?_; rotate_left; (focus (intro w hSw; (try dsimp only at hSw); go_simp <;> with_reducible rfl)); try simp only [Act.put, List.setIfInBounds_toArray, List.set_cons_zero, List.set_cons_succ]
                    refine takeL 5 (v := ?_) rfl (by kernel_rfl) (by kernel_rfl) (by kernel_rfl) (fun _ _ _ h => h) (by kernel_rfl) ?_ (by assumption) ?_; rotate_left; (focus (intro w hSw; (try dsimp only at hSw); go_simp <;> with_reducible rfl)); try simp only [Act.put, List.setIfInBounds_toArray, List.set_cons_zero, List.set_cons_succ]
                    refine takeL 6 (v := ?_) rfl (by kernel_rfl) (by kernel_rfl) (by kernel_rfl) (fun _ _ _ h => h) (by kernel_rfl) ?_ (by assumption) ?_; rotate_left; (focus (intro w hSw; (try dsimp only at hSw); go_simp <;> with_reducible rfl)); try simp only [Act.put, List.setIfInBounds_toArray, List.set_cons_zero, List.set_cons_succ]
                    refine takeL 7 (v := ?_) rfl (by kernel_rfl) (by kernel_rfl) (by kernel_rfl) (fun _ _ _ h => h) (by kernel_rfl) ?_ (by assumption) ?_; rotate_left; (focus (intro w hSw; (try dsimp only at hSw); go_simp <;> with_reducible rfl)); try simp only [Act.put, List.setIfInBounds_toArray, List.set_cons_zero, List.set_cons_succ]
                    refine takeL 8 (v := ?_) rfl (by kernel_rfl) (by kernel_rfl) (by kernel_rfl) (fun _ _ _ h => h) (by kernel_rfl) ?_ (by assumption) ?_; rotate_left; (focus (intro w hSw; (try dsimp only at hSw); go_simp <;> with_reducible rfl)); try simp only [Act.put, List.setIfInBounds_toArray, List.set_cons_zero, List.set_cons_succ]
                    refine takeL 9 (v := ?_) rfl (by kernel_rfl) (by kernel_rfl) (by kernel_rfl) (fun _ _ _ h => h) (by kernel_rfl) ?_ (by assumption) ?_; rotate_left; (focus (intro w hSw; (try dsimp only at hSw); go_simp <;> with_reducible rfl)); try simp only [Act.put, List.setIfInBounds_toArray, List.set_cons_zero, List.set_cons_succ]
                    refine takeL 10 (v := ?_) rfl (by kernel_rfl) (by kernel_rfl) (by kernel_rfl) (fun _ _ _ h => h) (by kernel_rfl) ?_ (by assumption) ?_; rotate_left; (focus (intro w hSw; (try dsimp only at hSw); go_simp <;> with_reducible rfl)); try simp only [Act.put, List.setIfInBounds_toArray, List.set_cons_zero, List.set_cons_succ]
                    refine takeL 11 (v := ?_) rfl (by kernel_rfl) (by kernel_rfl) (by kernel_rfl) (fun _ _ _ h => h) (by kernel_rfl) ?_ (by assumption) ?_; rotate_left; (focus (intro w hSw; (try dsimp only at hSw); go_simp <;> with_reducible rfl)); try simp only [Act.put, List.setIfInBounds_toArray, List.set_cons_zero, List.set_cons_succ]
                    refine takeL 12 (v := ?_) rfl (by kernel_rfl) (by kernel_rfl) (by kernel_rfl) (fun _ _ _ h => h) (by kernel_rfl) ?_ (by assumption) ?_; rotate_left; (focus (intro w hSw; (try dsimp only at hSw); go_simp <;> with_reducible rfl)); try simp only [Act.put, List.setIfInBounds_toArray, List.set_cons_zero, List.set_cons_succ]
                    refine takeL 13 (v := ?_) rfl (by kernel_rfl) (by kernel_rfl) (by kernel_rfl) (fun _ _ _ h => h) (by kernel_rfl) ?_ (by assumption) ?_; rotate_left; (focus (intro w hSw; (try dsimp only at hSw); go_simp <;> with_reducible rfl)); try simp only [Act.put, List.setIfInBounds_toArray, List.set_cons_zero, List.set_cons_succ]
                    refine takeL 14 (v := ?_) rfl (by kernel_rfl) (by kernel_rfl) (by kernel_rfl) (fun _ _ _ h => h) (by kernel_rfl) ?_ (by assumption) ?_; rotate_left; (focus (intro w hSw; (try dsimp only at hSw); go_simp <;> with_reducible rfl)); try simp only [Act.put, List.setIfInBounds_toArray, List.set_cons_zero, List.set_cons_succ]
                    refine takeL 15 (v := ?_) rfl (by kernel_rfl) (by kernel_rfl) (by kernel_rfl) (fun _ _ _ h => h) (by kernel_rfl) ?_ (by assumption) ?_; rotate_left; (focus (intro w hSw; (try dsimp only at hSw); go_simp <;> with_reducible rfl)); try simp only [Act.put, List.setIfInBounds_toArray, List.set_cons_zero, List.set_cons_succ]
                    refine takeL 16 (v := ?_) rfl (by kernel_rfl) (by kernel_rfl) (by kernel_rfl) (fun _ _ _ h => h) (by kernel_rfl) ?_ (by assumption) ?_; rotate_left; (focus (intro w hSw; (try dsimp only at hSw); go_simp <;> with_reducible rfl)); try simp only [Act.put, List.setIfInBounds_toArray, List.set_cons_zero, List.set_cons_succ]
                    refine takeL 17 (v := ?_) rfl (by kernel_rfl) (by kernel_rfl) (by kernel_rfl) (fun _ _ _ h => h) (by kernel_rfl) ?_ (by assumption) ?_; rotate_left; (focus (intro w hSw; (try dsimp only at hSw); go_simp <;> with_reducible rfl)); try simp only [Act.put, List.setIfInBounds_toArray, List.set_cons_zero, List.set_cons_succ]
                    refine takeL 18 (v := ?_) rfl (by kernel_rfl) (by kernel_rfl) (by kernel_rfl) (fun _ _ _ h => h) (by kernel_rfl) ?_ (by assumption) ?_; rotate_left; (focus (intro w hSw; (try dsimp only at hSw); go_simp <;> with_reducible rfl)); try simp only [Act.put, List.setIfInBounds_toArray, List.set_cons_zero, List.set_cons_succ]
                    refine takeL 19 (v := ?_) rfl (by kernel_rfl) (by kernel_rfl) (by kernel_rfl) (fun _ _ _ h => h) (by kernel_rfl) ?_ (by assumption) ?_; rotate_left; (focus (intro w hSw; (try dsimp only at hSw); go_simp <;> with_reducible rfl)); try simp only [Act.put, List.setIfInBounds_toArray, List.set_cons_zero, List.set_cons_succ]
                    refine takeL 20 (v := ?_) rfl (by kernel_rfl) (by kernel_rfl) (by kernel_rfl) (fun _ _ _ h => h) (by kernel_rfl) ?_ (by assumption) ?_; rotate_left; (focus (intro w hSw; (try dsimp only at hSw); go_simp <;> with_reducible rfl)); try simp only [Act.put, List.setIfInBounds_toArray, List.set_cons_zero, List.set_cons_succ]
                    refine takeL 21 (v := ?_) rfl (by kernel_rfl) (by kernel_rfl) (by kernel_rfl) (fun _ _ _ h => h) (by kernel_rfl) ?_ (by assumption) ?_; rotate_left; (focus (intro w hSw; (try dsimp only at hSw); go_simp <;> with_reducible rfl)); try simp only [Act.put, List.setIfInBounds_toArray, List.set_cons_zero, List.set_cons_succ]
                    refine wpAnyH_done (by kernel_rfl) ?_ _
                    go_wp2_with fail
                    go_roundw
                    case rel => exact ⟨t + 1, by omega, by go_num, ey.drew⟩
                    case measure => simp [intOf]; omega
                  · obtain rfl : t = k := by omega
                    have hbc := HBcx.out.ext ea9
                    have cc_0 := Bx.cell hbc 0 _ rfl; have cc_1 := Bx.cell hbc 1 _ rfl
                    clear hbc
                    go_wp2_with (go_at_call 12; refine (num_any _ _).mono ?_; rintro e wh ⟨rfl, rfl⟩)
                    go_ret
                    exact ⟨rfl, xx.trans ea9⟩
end Go.Proofs.Ythjpjhcbefhpbaa
