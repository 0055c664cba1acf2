/- The walk of DeviceRefuses: it returns true. -/
import Derived.Test.YthjpjhcbefhpbaaDalive
namespace Go.Proofs.Ythjpjhcbefhpbaa
open Go.RowKit
set_option linter.unusedSimpArgs false
set_option linter.unusedVariables false

def dev0 : Dev := ⟨⟨none, 0, 0, []⟩, ⟨none, 0, 0, []⟩⟩
/-- a device and an error told -/
def TupD (E : Int) (P : Dev → Prop) (e : Ending) : Prop := ∃ d : Dev, e = .returned (.tuple #[.agg d.cells.toArray, .int .i64 E]) ∧ P d
def newE (n : Int) : Int := if 2 ≤ n ∧ n ≤ 8192 then 0 else 4
theorem new_all (w : World) (n : Int) : Calls Try.prog 9 #[.int .i64 n] w fun e w' => TupD (newE n) (fun _ => True) e ∧ Ext w w' := by
  by_cases h : 2 ≤ n ∧ n ≤ 8192
  · obtain ⟨k, rfl⟩ : ∃ k : Nat, n = k := ⟨n.toNat, by omega⟩
    refine (new_yes w k (by omega) (by omega)).mono fun e w' ⟨⟨d, h1, _⟩, hx⟩ => ⟨⟨d, by rw [newE, if_pos h]; exact h1, trivial⟩, hx⟩
  · refine (new_no w n (by omega)).mono fun e w' ⟨h1, hx⟩ => ⟨⟨dev0, by rw [newE, if_neg h]; exact h1, trivial⟩, hx⟩
theorem crash_all (d : Dev) (w : World) (h : Dev.At w 0 w.heap.size d) (h3 : d.waits.n * 32 ≤ 140737488355328) : Calls Try.prog 13 #[.agg d.cells.toArray, .slice none 0 0] w fun e w' => TupD (chkE d) (fun z => z.waits.n = 0 ∧ (chkE d ≠ 0 → z.secs.n = 0)) e ∧ Ext w w' := by
  by_cases hc : chkE d = 0
  · refine (crash_yes d w h hc h3 none 0 0 [] ⟨rfl, by omega, Rd.nil⟩).mono fun e w' ⟨⟨d', h1, _, h2, _⟩, hx⟩ => ⟨⟨d', by rw [hc]; exact h1, by rw [h2], fun hn => absurd hc hn⟩, hx⟩
  · refine (crash_no d w h hc none 0 0).mono fun e w' ⟨h1, hx⟩ => ⟨⟨dev0, h1, rfl, fun _ => rfl⟩, hx⟩
def doE (d : Dev) (a : Ac) : Int := if chkE d = 0 then faultE d.secs.n a else chkE d
theorem do_all (d : Dev) (a : Ac) (w : World) (h : Dev.At w 0 w.heap.size d) (A : Option Addr) (hl : Acs w A 1 1 [a]) (h3 : (d.waits.n + 1) * 32 ≤ 140737488355328) : Calls Try.prog 11 #[.agg d.cells.toArray, .slice A 1 1] w fun e w' => TupD (doE d a) (fun z => chkE d ≠ 0 → z.secs.n = 0) e ∧ Ext w w' := by
  by_cases hc : chkE d = 0
  · by_cases hf : faultE d.secs.n a = 0
    · refine (do_yes d w h hc A 1 1 [a] hl (fun b hb => by simp only [List.mem_singleton] at hb; subst hb; exact hf) h3).mono fun e w' ⟨⟨d', h1, _⟩, hx⟩ => ⟨⟨d', by rw [doE, if_pos hc, hf]; exact h1, fun hn => absurd hc hn⟩, hx⟩
    · refine (do_fault d w h A 1 1 [a] hl hc ⟨a, by simp, hf⟩).mono fun e w' ⟨⟨b, hb, _, h1⟩, hx⟩ => ?_
      simp only [List.mem_singleton] at hb
      subst hb
      exact ⟨⟨dev0, by rw [doE, if_pos hc]; exact h1, fun hn => absurd hc hn⟩, hx⟩
  · refine (do_no d w h A 1 1 [a] hl hc).mono fun e w' ⟨h1, hx⟩ => ⟨⟨dev0, by rw [doE, if_neg hc]; exact h1, fun _ => rfl⟩, hx⟩
def readE (d : Dev) (k : Int) : Int := if chkE d ≠ 0 then chkE d else if 0 ≤ k ∧ k < (d.secs.n : Int) then 0 else 4
def TupO (E : Int) (P : Nat → Prop) (e : Ending) : Prop := ∃ A n c, e = .returned (.tuple #[.slice A n c, .int .i64 E]) ∧ P n
theorem read_all (d : Dev) (w : World) (h : Dev.At w 0 w.heap.size d) (k : Int) : Calls Try.prog 14 #[.agg d.cells.toArray, .int .i64 k] w fun e w' => TupO (readE d k) (fun n => n = if readE d k = 0 then 64 else 0) e ∧ Ext w w' := by
  by_cases hc : chkE d = 0
  · by_cases hk : 0 ≤ k ∧ k < (d.secs.n : Int)
    · obtain ⟨j, rfl⟩ : ∃ j : Nat, k = j := ⟨k.toNat, by omega⟩
      have hr : readE d j = 0 := by rw [readE, if_neg (by simpa using hc), if_pos hk]
      refine (read_yes d w h hc j (by omega)).mono fun e w' ⟨⟨s, h1, h2, h3⟩, hx⟩ => ⟨⟨s.A, s.n, s.c, by rw [hr]; exact h1, ?_⟩, hx⟩
      rw [hr, if_pos rfl, h3.at_.len, h2]
      exact readV_len (ok_of h hc) (by rw [secv_len h]; omega)
    · have hr : readE d k = 4 := by rw [readE, if_neg (by simpa using hc), if_neg hk]
      refine (read_far d w h hc k (by omega)).mono fun e w' ⟨h1, hx⟩ => ⟨⟨none, 0, 0, by rw [hr]; exact h1, by rw [hr]; rfl⟩, hx⟩
  · have hr : readE d k = chkE d := by rw [readE, if_pos hc]
    refine (read_no d w h hc k).mono fun e w' ⟨h1, hx⟩ => ⟨⟨none, 0, 0, by rw [hr]; exact h1, by rw [hr, if_neg hc]⟩, hx⟩
theorem chk_09 (d : Dev) : chkE d = 0 ∨ chkE d = 9 := by
  unfold chkE
  split
  · exact .inr rfl
  · split
    · exact .inr rfl
    · exact .inl rfl
def inR (n : Nat) : Bool := decide (2 ≤ n) && decide (n ≤ 8192)
def okW (n : Nat) (x : Wrt) : Bool := decide (0 ≤ x.pos) && decide (x.pos < (n : Int)) && decide (x.data.n = 64)
theorem chk_bool (d : Dev) : (inR d.secs.n && d.secs.xs.all (fun s => decide (s.n = 64)) && d.waits.xs.all (okW d.secs.n)) = decide (chkE d = 0) := by
  have e1 : d.secs.xs.all (fun s => decide (s.n = 64)) = !d.secs.xs.any oddO := by
    rw [List.all_eq_not_any_not]
    congr 2
    all_goals
      funext s
      rw [oddO, Bool.eq_iff_iff]
      try simp
  have e2 : d.waits.xs.all (okW d.secs.n) = !d.waits.xs.any (badW d.secs.n) := by
    rw [List.all_eq_not_any_not]
    congr 2
    all_goals
      funext x
      rw [okW, badW, oddO, Bool.eq_iff_iff]
      try simp
      try omega
  rw [e1, e2, inR, chkE, Bool.eq_iff_iff]
  cases d.secs.xs.any oddO <;> cases d.waits.xs.any (badW d.secs.n) <;> simp <;> omega
theorem faultE_eq (n : Nat) (a : Ac) : faultE n a = if a.flush = true then 0 else if a.pos < 0 ∨ (n : Int) ≤ a.pos then 4 else if a.data.n = 64 then 0 else 5 := rfl
set_option maxRecDepth 1000000 in
set_option maxHeartbeats 8000000 in
theorem refuses_any (d : Dev) (n : Int) (a : Ac) (w : World) (h : Dev.At w 0 w.heap.size d) (ha : Ac.At w 0 w.heap.size a) (hn0 : -9223372036854775808 ≤ n) (hn1 : n ≤ 9223372036854775807) (h3 : (d.waits.n + 1) * 32 ≤ 140737488355328) :
    Calls Try.prog 4 #[.agg d.cells.toArray, .int .i64 n, .agg a.cells.toArray] w fun e w' => e = .returned (.bool true) ∧ Ext w w' := by
  have HD := Lib.hid h
  have HA := Lib.hid ha
  have H3 := Lib.hid h3
  have HB := Lib.hid (chk_bool d)
  have m1 : d.secs.n ≤ 9223372036854775807 := Nat.le_trans h.secs.le h.secs.cap
  have m2 : d.waits.n ≤ 9223372036854775807 := Nat.le_trans h.waits.le h.waits.cap
  clear h ha h3
  obtain ⟨A0, n0, c0, hs0⟩ : ∃ A n c, d.secs.val = .slice A n c := ⟨_, _, _, rfl⟩
  have hn00 : d.secs.n = n0 := by injection hs0
  obtain ⟨A1, n1, c1, hs1⟩ : ∃ A n c, d.waits.val = .slice A n c := ⟨_, _, _, rfl⟩
  have hn11 : d.waits.n = n1 := by injection hs1
  obtain ⟨A2, n2, c2, hs2⟩ : ∃ A n c, a.data.val = .slice A n c := ⟨_, _, _, rfl⟩
  have hn22 : a.data.n = n2 := by injection hs2
  have HN2 := Lib.hid hn22
  clear hn22
  have hA0 : d.secs.A = A0 := by injection hs0
  have hA1 : d.waits.A = A1 := by injection hs1
  have Hcv := Lib.hid (show d.cells.toArray = #[.slice A0 n0 c0, .slice A1 n1 c1] by rw [Dev.cells, hs0, hs1])
  have Hca := Lib.hid (show a.cells.toArray = #[.bool a.flush, .int .i64 a.pos, .slice A2 n2 c2] by rw [Ac.cells, hs2])
  have HN0 := Lib.hid hn00
  have HN1 := Lib.hid hn11
  have HA0 := Lib.hid hA0
  have HA1 := Lib.hid hA1
  rw [hn00] at m1
  rw [hn11] at m2
  have kN := fun w1 => new_all w1 n
  have HKN := Lib.hid kN
  have kR := fun w1 (e : Ext w w1) => read_all d w1 ((HD.out.on e (Nat.le_refl _)).low (Nat.zero_le _)) n
  have kD := fun w1 w2 (e : Ext w w1) (hw : w1.alloc (.cells a.cells.toArray 36) = w2) => do_all d a w2 ((HD.out.on (show Ext w w2 by rw [← hw]; exact e.alloc _) (Nat.le_refl _)).low (Nat.zero_le _)) (some ⟨w1.heap.size, 0, none⟩)
    (acs_one hw ⟨HA.out.p0, HA.out.p1, Oct.At.low (Oct.At.on HA.out.data e (Nat.le_refl _)) (Nat.zero_le _)⟩) H3.out
  have kC := fun w1 (e : Ext w w1) => crash_all d w1 ((HD.out.on e (Nat.le_refl _)).low (Nat.zero_le _)) (by have := H3.out; omega)
  have kK := fun w1 (e : Ext w w1) => chk_any d w1 ((HD.out.on e (Nat.le_refl _)).low (Nat.zero_le _))
  simp only [Hcv.out, Hca.out] at kR kD kC kK
  have HKR := Lib.hid kR
  have HKD := Lib.hid kD
  have HKC := Lib.hid kC
  have HKK := Lib.hid kK
  clear kN kR kD kC kK
  rw [Hcv.out, Hca.out]
  clear hs0 hs1 hs2 hn00 hn11 hA0 hA1
  go_enter Try.func4, Try.ntmps4
  go_upto_region 1 with (fail)
  generalize hw1 : World.alloc w _ = w1
  obtain ⟨e1, z1, G1⟩ := box_cells hw1
  clear hw1
  generalize hw2 : World.alloc w1 _ = w2
  obtain ⟨e2, z2, G2⟩ := box_cells hw2
  clear hw2
  rw [z1] at G2
  have b0 := fun w' (e : Ext w2 w') => G1 0 _ rfl w' (e2.trans e)
  have b1 := fun w' (e : Ext w2 w') => G1 1 _ rfl w' (e2.trans e)
  have a0 := G2 0 _ rfl
  have a1 := G2 1 _ rfl
  have a2 := G2 2 _ rfl
  have Z := Lib.hid (show w2.heap.size = w.heap.size + 2 by omega)
  have x2 : Ext w w2 := e1.trans e2
  clear G1 G2 z1 z2 e1 e2 w1
  have y2 := Ext.refl w2
  go_upto_region 3 with ((go_at_call 7; refine (alive_any _).mono ?_; rintro e w3 ⟨rfl, e3⟩))
  have hin := Lib.hid (show inR n0 = (decide (2 ≤ (n0 : Int)) && decide ((n0 : Int) ≤ 8192)) by rw [inR, Bool.eq_iff_iff]; simp; omega)
  have x3 : Ext w w3 := x2.trans e3
  go_cut [7] from 22 to 31 (fun s wx => s = .bool (inR n0) ∧ w3 = wx)
  case first =>
    go_wp2_with fail
    all_goals (go_meet; refine ⟨congrArg Value.bool ?_, rfl⟩; rw [hin.out]; (first | (simp [*]; done) | (simp [*]; omega) | (rw [Bool.eq_iff_iff]; simp; omega)))
  case rest =>
    obtain ⟨rfl, rfl⟩ := hcut
    generalize hr : inR n0 = r0 at *
    have Hr := Lib.hid hr
    clear hr hin
    go_wp2_with fail
    go_loopw [7, 8] (fun b i wr => ∃ (k : Nat) (v : Bool), k ≤ n0 ∧ i = .int .i64 k ∧ b = .bool v ∧ Hid (v = (r0 && (d.secs.xs.take k).all (fun s => decide (s.n = 64)))) ∧ Ext w2 wr) (fun _ i _ => n0 - (intOf i).toNat)
    case atStart => exact ⟨0, r0, Nat.zero_le _, rfl, rfl, Lib.hid (by simp), e3⟩
    case round =>
      obtain ⟨k, v, hk, rfl, rfl, HV, e4⟩ := hrel
      by_cases hlt : k < n0
      · have hl : k < d.secs.xs.length := by rw [← HD.out.secs.len, HN0.out]; exact hlt
        obtain ⟨q1, q2, hA, _, hq1, G0⟩ := rd_flat (size := 1) (fun _ => rfl) (by omega) HD.out.secs.rd hl
        have hA' : A0 = some ⟨q1, q2, none⟩ := by rw [← HA0.out]; exact hA
        subst hA'
        have htk := Lib.hid (show (d.secs.xs.take (k + 1)).all (fun s => decide (s.n = 64)) = ((d.secs.xs.take k).all (fun s => decide (s.n = 64)) && decide (d.secs.xs[k].n = 64)) by rw [List.take_succ_eq_append_getElem hl, List.all_append]; simp)
        have hle : d.secs.xs[k].n ≤ 9223372036854775807 := Nat.le_trans (HD.out.secs.all _ (List.getElem_mem _)).le (HD.out.secs.all _ (List.getElem_mem _)).cap
        have gs : wr.cell? ⟨q1, q2 + k, none⟩ = some d.secs.xs[k].val := (Below.cell (x2.trans e4) hq1).trans (by simpa using G0 0 _ rfl)
        clear hA G0
        generalize d.secs.xs[k] = y at *
        obtain ⟨yA, yn, yc, yx⟩ := y
        simp only [Sl.val] at gs
        have hd := Lib.hid (show decide (yn = 64) = ((yn : Int) == 64) by rw [Bool.eq_iff_iff]; simp; omega)
        have p0 : (0 : Int) ≤ k := by omega
        have p1 : (k : Int) < n0 := by omega
        cases v
        · go_wp2_with fail
          all_goals
            go_roundw
            case rel => exact ⟨k + 1, false, by omega, by go_num, rfl, Lib.hid (by rw [htk.out, ← Bool.and_assoc, ← HV.out]; rfl), e4⟩
            case measure => simp [intOf]; omega
        · go_wp2_with fail
          all_goals
            go_roundw
            case rel => exact ⟨k + 1, (yn : Int) == 64, by omega, by go_num, rfl, Lib.hid (by rw [htk.out, ← Bool.and_assoc, ← HV.out, ← hd.out]; rfl), e4⟩
            case measure => simp [intOf]; omega
      · obtain rfl : k = n0 := by omega
        have HV2 := Lib.hid (show v = (r0 && d.secs.xs.all (fun s => decide (s.n = 64))) by rw [HV.out, List.take_of_length_le (by rw [← HD.out.secs.len, HN0.out]; exact Nat.le_refl _)])
        clear HV
        generalize hq : d.secs.xs.all (fun s => decide (s.n = 64)) = qa at *
        have HQ := Lib.hid hq
        clear hq
        go_wp2_with fail
        go_loopw [7, 9] (fun b i wx => ∃ (j : Nat) (u : Bool), j ≤ n1 ∧ i = .int .i64 j ∧ b = .bool u ∧ Hid (u = (v && (d.waits.xs.take j).all (okW k))) ∧ Ext w2 wx) (fun _ i _ => n1 - (intOf i).toNat)
        case atStart => exact ⟨0, v, Nat.zero_le _, rfl, rfl, Lib.hid (by simp), e4⟩
        case round =>
          clear e4 hlt
          obtain ⟨j, u, hj, rfl, rfl, HU, e4⟩ := hrel
          by_cases hlt : j < n1
          · have hl : j < d.waits.xs.length := by rw [← HD.out.waits.len, HN1.out]; exact hlt
            obtain ⟨q1, q2, hA, _, hq1, G0⟩ := rd_flat (size := 2) (fun _ => rfl) (by omega) HD.out.waits.rd hl
            have hA' : A1 = some ⟨q1, q2, none⟩ := by rw [← HA1.out]; exact hA
            subst hA'
            have htk := Lib.hid (show (d.waits.xs.take (j + 1)).all (okW k) = ((d.waits.xs.take j).all (okW k) && okW k d.waits.xs[j]) by rw [List.take_succ_eq_append_getElem hl, List.all_append]; simp)
            have hwa := HD.out.waits.all _ (List.getElem_mem hl)
            have hle : d.waits.xs[j].data.n ≤ 9223372036854775807 := Nat.le_trans hwa.data.le hwa.data.cap
            obtain ⟨wp0, wp1⟩ := And.intro hwa.p0 hwa.p1
            have gs0 : ∀ w', Ext wr w' → w'.cell? ⟨q1, q2 + j * 2, none⟩ = some (.int .i64 d.waits.xs[j].pos) := fun w' e => (Below.cell (p := ⟨q1, q2 + j * 2, none⟩) (x2.trans (e4.trans e)) hq1).trans (by simpa using G0 0 _ rfl)
            have gs1 : ∀ w', Ext wr w' → w'.cell? ⟨q1, q2 + j * 2 + 1, none⟩ = some d.waits.xs[j].data.val := fun w' e => (Below.cell (p := ⟨q1, q2 + j * 2 + 1, none⟩) (x2.trans (e4.trans e)) hq1).trans (by simpa using G0 1 _ rfl)
            have bb0 := fun w' (e : Ext wr w') => b0 w' (e4.trans e)
            have bb1 := fun w' (e : Ext wr w') => b1 w' (e4.trans e)
            clear hA G0 hwa
            generalize d.waits.xs[j] = y at *
            obtain ⟨pos, yA, yn, yc, yx⟩ := y
            simp only [Sl.val] at gs1
            have hok := Lib.hid (show okW k ⟨pos, ⟨yA, yn, yc, yx⟩⟩ = (decide (0 ≤ pos) && decide (pos < (k : Int)) && decide (yn = 64)) from rfl)
            have hd := Lib.hid (show decide (yn = 64) = ((yn : Int) == 64) by rw [Bool.eq_iff_iff]; simp; omega)
            have p0 : (0 : Int) ≤ j := by omega
            have p1 : (j : Int) < n1 := by omega
            have rr := Ext.refl wr
            cases u
            · go_wp2_with fail
              refine wp_region_held_drew (S := fun w' => Ext wr w') (by kernel_rfl) (by (repeat (first | exact Below.refl _ _ | exact Ext.refl _ | assumption | refine Below.drew ?_ | refine below_drewN ?_ _ | refine below_alloc ?_ (by first | exact Nat.le_refl _ | assumption | (simp; done) | omega | (simp; omega)) _ | refine below_ext ?_ (by assumption) (by first | exact Nat.le_refl _ | assumption | (simp; done) | omega | (simp; omega)) | refine Ext.drew ?_ | refine Ext.drewN ?_ _ | refine Ext.alloc ?_ _ | refine Ext.setCell ?_ (by first | assumption | (simp; done) | (simp; omega)) _ | refine Below.setCell ?_ (by first | assumption | (simp; done) | (simp; omega)) _ | refine Ext.trans ?_ (by assumption)))) (fun hHeld => ?_)
              refine takeL 0 (v := ?_) rfl (by kernel_rfl) (by kernel_rfl) (by kernel_rfl) (fun _ _ _ h => h) (by kernel_rfl) ?_ (by assumption) ?_; rotate_left; (focus (intro w hSw; (try dsimp only at hSw); go_simp <;> with_reducible rfl)); try simp only [Act.put, List.setIfInBounds_toArray, List.set_cons_zero, List.set_cons_succ]
              refine takeL 1 (v := ?_) rfl (by kernel_rfl) (by kernel_rfl) (by kernel_rfl) (fun _ _ _ h => h) (by kernel_rfl) ?_ (by assumption) ?_; rotate_left; (focus (intro w hSw; (try dsimp only at hSw); go_simp <;> with_reducible rfl)); try simp only [Act.put, List.setIfInBounds_toArray, List.set_cons_zero, List.set_cons_succ]
              refine skipL 2 rfl (by kernel_rfl) (by kernel_rfl) (by kernel_rfl) (fun _ _ _ h => h) (by kernel_rfl) (by assumption) ?_; try simp only [Act.put, List.setIfInBounds_toArray, List.set_cons_zero, List.set_cons_succ]
              refine skipL 3 rfl (by kernel_rfl) (by kernel_rfl) (by kernel_rfl) (fun _ _ _ h => h) (by kernel_rfl) (by assumption) ?_; try simp only [Act.put, List.setIfInBounds_toArray, List.set_cons_zero, List.set_cons_succ]
              refine skipL 4 rfl (by kernel_rfl) (by kernel_rfl) (by kernel_rfl) (fun _ _ _ h => h) (by kernel_rfl) (by assumption) ?_; try simp only [Act.put, List.setIfInBounds_toArray, List.set_cons_zero, List.set_cons_succ]
              refine skipL 5 rfl (by kernel_rfl) (by kernel_rfl) (by kernel_rfl) (fun _ _ _ h => h) (by kernel_rfl) (by assumption) ?_; try simp only [Act.put, List.setIfInBounds_toArray, List.set_cons_zero, List.set_cons_succ]
              refine skipL 6 rfl (by kernel_rfl) (by kernel_rfl) (by kernel_rfl) (fun _ _ _ h => h) (by kernel_rfl) (by assumption) ?_; try simp only [Act.put, List.setIfInBounds_toArray, List.set_cons_zero, List.set_cons_succ]
              refine skipL 7 rfl (by kernel_rfl) (by kernel_rfl) (by kernel_rfl) (fun _ _ _ h => h) (by kernel_rfl) (by assumption) ?_; try simp only [Act.put, List.setIfInBounds_toArray, List.set_cons_zero, List.set_cons_succ]
              refine skipL 8 rfl (by kernel_rfl) (by kernel_rfl) (by kernel_rfl) (fun _ _ _ h => h) (by kernel_rfl) (by assumption) ?_; try simp only [Act.put, List.setIfInBounds_toArray, List.set_cons_zero, List.set_cons_succ]
              refine takeL 9 (v := ?_) rfl (by kernel_rfl) (by kernel_rfl) (by kernel_rfl) (fun _ _ _ h => h) (by kernel_rfl) ?_ (by assumption) ?_; rotate_left; (focus (intro w hSw; (try dsimp only at hSw); go_simp <;> with_reducible rfl)); try simp only [Act.put, List.setIfInBounds_toArray, List.set_cons_zero, List.set_cons_succ]
              refine takeL 10 (v := ?_) rfl (by kernel_rfl) (by kernel_rfl) (by kernel_rfl) (fun _ _ _ h => h) (by kernel_rfl) ?_ (by assumption) ?_; rotate_left; (focus (intro w hSw; (try dsimp only at hSw); go_simp <;> with_reducible rfl)); try simp only [Act.put, List.setIfInBounds_toArray, List.set_cons_zero, List.set_cons_succ]
              refine skipL 11 rfl (by kernel_rfl) (by kernel_rfl) (by kernel_rfl) (fun _ _ _ h => h) (by kernel_rfl) (by assumption) ?_; try simp only [Act.put, List.setIfInBounds_toArray, List.set_cons_zero, List.set_cons_succ]
              refine skipL 12 rfl (by kernel_rfl) (by kernel_rfl) (by kernel_rfl) (fun _ _ _ h => h) (by kernel_rfl) (by assumption) ?_; try simp only [Act.put, List.setIfInBounds_toArray, List.set_cons_zero, List.set_cons_succ]
              refine skipL 13 rfl (by kernel_rfl) (by kernel_rfl) (by kernel_rfl) (fun _ _ _ h => h) (by kernel_rfl) (by assumption) ?_; try simp only [Act.put, List.setIfInBounds_toArray, List.set_cons_zero, List.set_cons_succ]
              refine skipL 14 rfl (by kernel_rfl) (by kernel_rfl) (by kernel_rfl) (fun _ _ _ h => h) (by kernel_rfl) (by assumption) ?_; try simp only [Act.put, List.setIfInBounds_toArray, List.set_cons_zero, List.set_cons_succ]
              refine skipL 15 rfl (by kernel_rfl) (by kernel_rfl) (by kernel_rfl) (fun _ _ _ h => h) (by kernel_rfl) (by assumption) ?_; try simp only [Act.put, List.setIfInBounds_toArray, List.set_cons_zero, List.set_cons_succ]
              refine skipL 16 rfl (by kernel_rfl) (by kernel_rfl) (by kernel_rfl) (fun _ _ _ h => h) (by kernel_rfl) (by assumption) ?_; try simp only [Act.put, List.setIfInBounds_toArray, List.set_cons_zero, List.set_cons_succ]
              refine skipL 17 rfl (by kernel_rfl) (by kernel_rfl) (by kernel_rfl) (fun _ _ _ h => h) (by kernel_rfl) (by assumption) ?_; try simp only [Act.put, List.setIfInBounds_toArray, List.set_cons_zero, List.set_cons_succ]
              refine skipL 18 rfl (by kernel_rfl) (by kernel_rfl) (by kernel_rfl) (fun _ _ _ h => h) (by kernel_rfl) (by assumption) ?_; try simp only [Act.put, List.setIfInBounds_toArray, List.set_cons_zero, List.set_cons_succ]
              refine skipL 19 rfl (by kernel_rfl) (by kernel_rfl) (by kernel_rfl) (fun _ _ _ h => h) (by kernel_rfl) (by assumption) ?_; try simp only [Act.put, List.setIfInBounds_toArray, List.set_cons_zero, List.set_cons_succ]
              refine skipL 20 rfl (by kernel_rfl) (by kernel_rfl) (by kernel_rfl) (fun _ _ _ h => h) (by kernel_rfl) (by assumption) ?_; try simp only [Act.put, List.setIfInBounds_toArray, List.set_cons_zero, List.set_cons_succ]
              refine takeL 21 (v := ?_) rfl (by kernel_rfl) (by kernel_rfl) (by kernel_rfl) (fun _ _ _ h => h) (by kernel_rfl) ?_ (by assumption) ?_; rotate_left; (focus (intro w hSw; (try dsimp only at hSw); go_simp <;> with_reducible rfl)); try simp only [Act.put, List.setIfInBounds_toArray, List.set_cons_zero, List.set_cons_succ]
              refine takeL 22 (v := ?_) rfl (by kernel_rfl) (by kernel_rfl) (by kernel_rfl) (fun _ _ _ h => h) (by kernel_rfl) ?_ (by assumption) ?_; rotate_left; (focus (intro w hSw; (try dsimp only at hSw); go_simp <;> with_reducible rfl)); try simp only [Act.put, List.setIfInBounds_toArray, List.set_cons_zero, List.set_cons_succ]
              refine skipL 23 rfl (by kernel_rfl) (by kernel_rfl) (by kernel_rfl) (fun _ _ _ h => h) (by kernel_rfl) (by assumption) ?_; try simp only [Act.put, List.setIfInBounds_toArray, List.set_cons_zero, List.set_cons_succ]
              refine skipL 24 rfl (by kernel_rfl) (by kernel_rfl) (by kernel_rfl) (fun _ _ _ h => h) (by kernel_rfl) (by assumption) ?_; try simp only [Act.put, List.setIfInBounds_toArray, List.set_cons_zero, List.set_cons_succ]
              refine skipL 25 rfl (by kernel_rfl) (by kernel_rfl) (by kernel_rfl) (fun _ _ _ h => h) (by kernel_rfl) (by assumption) ?_; try simp only [Act.put, List.setIfInBounds_toArray, List.set_cons_zero, List.set_cons_succ]
              refine skipL 26 rfl (by kernel_rfl) (by kernel_rfl) (by kernel_rfl) (fun _ _ _ h => h) (by kernel_rfl) (by assumption) ?_; try simp only [Act.put, List.setIfInBounds_toArray, List.set_cons_zero, List.set_cons_succ]
              refine skipL 27 rfl (by kernel_rfl) (by kernel_rfl) (by kernel_rfl) (fun _ _ _ h => h) (by kernel_rfl) (by assumption) ?_; try simp only [Act.put, List.setIfInBounds_toArray, List.set_cons_zero, List.set_cons_succ]
              refine skipL 28 rfl (by kernel_rfl) (by kernel_rfl) (by kernel_rfl) (fun _ _ _ h => h) (by kernel_rfl) (by assumption) ?_; try simp only [Act.put, List.setIfInBounds_toArray, List.set_cons_zero, List.set_cons_succ]
              refine skipL 29 rfl (by kernel_rfl) (by kernel_rfl) (by kernel_rfl) (fun _ _ _ h => h) (by kernel_rfl) (by assumption) ?_; try simp only [Act.put, List.setIfInBounds_toArray, List.set_cons_zero, List.set_cons_succ]
              refine skipL 30 rfl (by kernel_rfl) (by kernel_rfl) (by kernel_rfl) (fun _ _ _ h => h) (by kernel_rfl) (by assumption) ?_; try simp only [Act.put, List.setIfInBounds_toArray, List.set_cons_zero, List.set_cons_succ]
              refine takeL 31 (v := ?_) rfl (by kernel_rfl) (by kernel_rfl) (by kernel_rfl) (fun _ _ _ h => h) (by kernel_rfl) ?_ (by assumption) ?_; rotate_left; (focus (intro w hSw; (try dsimp only at hSw); go_simp <;> with_reducible rfl)); try simp only [Act.put, List.setIfInBounds_toArray, List.set_cons_zero, List.set_cons_succ]
              refine takeL 32 (v := ?_) rfl (by kernel_rfl) (by kernel_rfl) (by kernel_rfl) (fun _ _ _ h => h) (by kernel_rfl) ?_ (by assumption) ?_; rotate_left; (focus (intro w hSw; (try dsimp only at hSw); go_simp <;> with_reducible rfl)); try simp only [Act.put, List.setIfInBounds_toArray, List.set_cons_zero, List.set_cons_succ]
              refine wpAnyH_done (by kernel_rfl) ?_ _
              go_wp2_with fail
              go_roundw
              case rel => exact ⟨j + 1, false, by omega, by go_num, rfl, Lib.hid (by rw [htk.out, ← Bool.and_assoc, ← HU.out]; rfl), by (repeat (first | exact Below.refl _ _ | exact Ext.refl _ | assumption | refine Below.drew ?_ | refine below_drewN ?_ _ | refine below_alloc ?_ (by first | exact Nat.le_refl _ | assumption | (simp; done) | omega | (simp; omega)) _ | refine below_ext ?_ (by assumption) (by first | exact Nat.le_refl _ | assumption | (simp; done) | omega | (simp; omega)) | refine Ext.drew ?_ | refine Ext.drewN ?_ _ | refine Ext.alloc ?_ _ | refine Ext.setCell ?_ (by first | assumption | (simp; done) | (simp; omega)) _ | refine Below.setCell ?_ (by first | assumption | (simp; done) | (simp; omega)) _ | refine Ext.trans ?_ (by assumption)))⟩
              case measure => simp [intOf]; omega
            · by_cases g0 : 0 ≤ pos
              · by_cases g1 : pos < (k : Int)
                · go_wp2_with fail
                  refine wp_region_held_drew (S := fun w' => Ext wr w') (by kernel_rfl) (by (repeat (first | exact Below.refl _ _ | exact Ext.refl _ | assumption | refine Below.drew ?_ | refine below_drewN ?_ _ | refine below_alloc ?_ (by first | exact Nat.le_refl _ | assumption | (simp; done) | omega | (simp; omega)) _ | refine below_ext ?_ (by assumption) (by first | exact Nat.le_refl _ | assumption | (simp; done) | omega | (simp; omega)) | refine Ext.drew ?_ | refine Ext.drewN ?_ _ | refine Ext.alloc ?_ _ | refine Ext.setCell ?_ (by first | assumption | (simp; done) | (simp; omega)) _ | refine Below.setCell ?_ (by first | assumption | (simp; done) | (simp; omega)) _ | refine Ext.trans ?_ (by assumption)))) (fun hHeld => ?_)
                  refine takeL 0 (v := ?_) rfl (by kernel_rfl) (by kernel_rfl) (by kernel_rfl) (fun _ _ _ h => h) (by kernel_rfl) ?_ (by assumption) ?_; rotate_left; (focus (intro w hSw; (try dsimp only at hSw); go_simp <;> with_reducible rfl)); try simp only [Act.put, List.setIfInBounds_toArray, List.set_cons_zero, List.set_cons_succ]
                  refine takeL 1 (v := ?_) rfl (by kernel_rfl) (by kernel_rfl) (by kernel_rfl) (fun _ _ _ h => h) (by kernel_rfl) ?_ (by assumption) ?_; rotate_left; (focus (intro w hSw; (try dsimp only at hSw); go_simp <;> with_reducible rfl)); try simp only [Act.put, List.setIfInBounds_toArray, List.set_cons_zero, List.set_cons_succ]
                  refine takeL 2 (v := ?_) rfl (by kernel_rfl) (by kernel_rfl) (by kernel_rfl) (fun _ _ _ h => h) (by kernel_rfl) ?_ (by assumption) ?_; rotate_left; (focus (intro w hSw; (try dsimp only at hSw); go_simp <;> with_reducible rfl)); try simp only [Act.put, List.setIfInBounds_toArray, List.set_cons_zero, List.set_cons_succ]
                  refine takeL 3 (v := ?_) rfl (by kernel_rfl) (by kernel_rfl) (by kernel_rfl) (fun _ _ _ h => h) (by kernel_rfl) ?_ (by assumption) ?_; rotate_left; (focus (intro w hSw; (try dsimp only at hSw); go_simp <;> with_reducible rfl)); try simp only [Act.put, List.setIfInBounds_toArray, List.set_cons_zero, List.set_cons_succ]
                  refine takeL 4 (v := ?_) rfl (by kernel_rfl) (by kernel_rfl) (by kernel_rfl) (fun _ _ _ h => h) (by kernel_rfl) ?_ (by assumption) ?_; rotate_left; (focus (intro w hSw; (try dsimp only at hSw); go_simp <;> with_reducible rfl)); try simp only [Act.put, List.setIfInBounds_toArray, List.set_cons_zero, List.set_cons_succ]
                  refine takeL 5 (v := ?_) rfl (by kernel_rfl) (by kernel_rfl) (by kernel_rfl) (fun _ _ _ h => h) (by kernel_rfl) ?_ (by assumption) ?_; rotate_left; (focus (intro w hSw; (try dsimp only at hSw); go_simp <;> with_reducible rfl)); try simp only [Act.put, List.setIfInBounds_toArray, List.set_cons_zero, List.set_cons_succ]
                  refine takeL 6 (v := ?_) rfl (by kernel_rfl) (by kernel_rfl) (by kernel_rfl) (fun _ _ _ h => h) (by kernel_rfl) ?_ (by assumption) ?_; rotate_left; (focus (intro w hSw; (try dsimp only at hSw); go_simp <;> with_reducible rfl)); try simp only [Act.put, List.setIfInBounds_toArray, List.set_cons_zero, List.set_cons_succ]
                  refine takeL 7 (v := ?_) rfl (by kernel_rfl) (by kernel_rfl) (by kernel_rfl) (fun _ _ _ h => h) (by kernel_rfl) ?_ (by assumption) ?_; rotate_left; (focus (intro w hSw; (try dsimp only at hSw); go_simp <;> with_reducible rfl)); try simp only [Act.put, List.setIfInBounds_toArray, List.set_cons_zero, List.set_cons_succ]
                  refine takeL 8 (v := ?_) rfl (by kernel_rfl) (by kernel_rfl) (by kernel_rfl) (fun _ _ _ h => h) (by kernel_rfl) ?_ (by assumption) ?_; rotate_left; (focus (intro w hSw; (try dsimp only at hSw); go_simp <;> with_reducible rfl)); try simp only [Act.put, List.setIfInBounds_toArray, List.set_cons_zero, List.set_cons_succ]
                  refine takeL 9 (v := ?_) rfl (by kernel_rfl) (by kernel_rfl) (by kernel_rfl) (fun _ _ _ h => h) (by kernel_rfl) ?_ (by assumption) ?_; rotate_left; (focus (intro w hSw; (try dsimp only at hSw); go_simp <;> with_reducible rfl)); try simp only [Act.put, List.setIfInBounds_toArray, List.set_cons_zero, List.set_cons_succ]
                  refine takeL 10 (v := ?_) rfl (by kernel_rfl) (by kernel_rfl) (by kernel_rfl) (fun _ _ _ h => h) (by kernel_rfl) ?_ (by assumption) ?_; rotate_left; (focus (intro w hSw; (try dsimp only at hSw); go_simp <;> with_reducible rfl)); try simp only [Act.put, List.setIfInBounds_toArray, List.set_cons_zero, List.set_cons_succ]
                  refine takeL 11 (v := ?_) rfl (by kernel_rfl) (by kernel_rfl) (by kernel_rfl) (fun _ _ _ h => h) (by kernel_rfl) ?_ (by assumption) ?_; rotate_left; (focus (intro w hSw; (try dsimp only at hSw); go_simp <;> with_reducible rfl)); try simp only [Act.put, List.setIfInBounds_toArray, List.set_cons_zero, List.set_cons_succ]
                  refine takeL 12 (v := ?_) rfl (by kernel_rfl) (by kernel_rfl) (by kernel_rfl) (fun _ _ _ h => h) (by kernel_rfl) ?_ (by assumption) ?_; rotate_left; (focus (intro w hSw; (try dsimp only at hSw); go_simp <;> with_reducible rfl)); try simp only [Act.put, List.setIfInBounds_toArray, List.set_cons_zero, List.set_cons_succ]
                  refine takeL 13 (v := ?_) rfl (by kernel_rfl) (by kernel_rfl) (by kernel_rfl) (fun _ _ _ h => h) (by kernel_rfl) ?_ (by assumption) ?_; rotate_left; (focus (intro w hSw; (try dsimp only at hSw); go_simp <;> with_reducible rfl)); try simp only [Act.put, List.setIfInBounds_toArray, List.set_cons_zero, List.set_cons_succ]
                  refine takeL 14 (v := ?_) rfl (by kernel_rfl) (by kernel_rfl) (by kernel_rfl) (fun _ _ _ h => h) (by kernel_rfl) ?_ (by assumption) ?_; rotate_left; (focus (intro w hSw; (try dsimp only at hSw); go_simp <;> with_reducible rfl)); try simp only [Act.put, List.setIfInBounds_toArray, List.set_cons_zero, List.set_cons_succ]
                  refine takeL 15 (v := ?_) rfl (by kernel_rfl) (by kernel_rfl) (by kernel_rfl) (fun _ _ _ h => h) (by kernel_rfl) ?_ (by assumption) ?_; rotate_left; (focus (intro w hSw; (try dsimp only at hSw); go_simp <;> with_reducible rfl)); try simp only [Act.put, List.setIfInBounds_toArray, List.set_cons_zero, List.set_cons_succ]
                  refine takeL 16 (v := ?_) rfl (by kernel_rfl) (by kernel_rfl) (by kernel_rfl) (fun _ _ _ h => h) (by kernel_rfl) ?_ (by assumption) ?_; rotate_left; (focus (intro w hSw; (try dsimp only at hSw); go_simp <;> with_reducible rfl)); try simp only [Act.put, List.setIfInBounds_toArray, List.set_cons_zero, List.set_cons_succ]
                  refine takeL 17 (v := ?_) rfl (by kernel_rfl) (by kernel_rfl) (by kernel_rfl) (fun _ _ _ h => h) (by kernel_rfl) ?_ (by assumption) ?_; rotate_left; (focus (intro w hSw; (try dsimp only at hSw); go_simp <;> with_reducible rfl)); try simp only [Act.put, List.setIfInBounds_toArray, List.set_cons_zero, List.set_cons_succ]
                  refine takeL 18 (v := ?_) rfl (by kernel_rfl) (by kernel_rfl) (by kernel_rfl) (fun _ _ _ h => h) (by kernel_rfl) ?_ (by assumption) ?_; rotate_left; (focus (intro w hSw; (try dsimp only at hSw); go_simp <;> with_reducible rfl)); try simp only [Act.put, List.setIfInBounds_toArray, List.set_cons_zero, List.set_cons_succ]
                  refine takeL 19 (v := ?_) rfl (by kernel_rfl) (by kernel_rfl) (by kernel_rfl) (fun _ _ _ h => h) (by kernel_rfl) ?_ (by assumption) ?_; rotate_left; (focus (intro w hSw; (try dsimp only at hSw); go_simp <;> with_reducible rfl)); try simp only [Act.put, List.setIfInBounds_toArray, List.set_cons_zero, List.set_cons_succ]
                  refine takeL 20 (v := ?_) rfl (by kernel_rfl) (by kernel_rfl) (by kernel_rfl) (fun _ _ _ h => h) (by kernel_rfl) ?_ (by assumption) ?_; rotate_left; (focus (intro w hSw; (try dsimp only at hSw); go_simp <;> with_reducible rfl)); try simp only [Act.put, List.setIfInBounds_toArray, List.set_cons_zero, List.set_cons_succ]
                  refine takeL 21 (v := ?_) rfl (by kernel_rfl) (by kernel_rfl) (by kernel_rfl) (fun _ _ _ h => h) (by kernel_rfl) ?_ (by assumption) ?_; rotate_left; (focus (intro w hSw; (try dsimp only at hSw); go_simp <;> with_reducible rfl)); try simp only [Act.put, List.setIfInBounds_toArray, List.set_cons_zero, List.set_cons_succ]
                  refine takeL 22 (v := ?_) rfl (by kernel_rfl) (by kernel_rfl) (by kernel_rfl) (fun _ _ _ h => h) (by kernel_rfl) ?_ (by assumption) ?_; rotate_left; (focus (intro w hSw; (try dsimp only at hSw); go_simp <;> with_reducible rfl)); try simp only [Act.put, List.setIfInBounds_toArray, List.set_cons_zero, List.set_cons_succ]
                  refine takeL 23 (v := ?_) rfl (by kernel_rfl) (by kernel_rfl) (by kernel_rfl) (fun _ _ _ h => h) (by kernel_rfl) ?_ (by assumption) ?_; rotate_left; (focus (intro w hSw; (try dsimp only at hSw); go_simp <;> with_reducible rfl)); try simp only [Act.put, List.setIfInBounds_toArray, List.set_cons_zero, List.set_cons_succ]
                  refine takeL 24 (v := ?_) rfl (by kernel_rfl) (by kernel_rfl) (by kernel_rfl) (fun _ _ _ h => h) (by kernel_rfl) ?_ (by assumption) ?_; rotate_left; (focus (intro w hSw; (try dsimp only at hSw); go_simp <;> with_reducible rfl)); try simp only [Act.put, List.setIfInBounds_toArray, List.set_cons_zero, List.set_cons_succ]
                  refine takeL 25 (v := ?_) rfl (by kernel_rfl) (by kernel_rfl) (by kernel_rfl) (fun _ _ _ h => h) (by kernel_rfl) ?_ (by assumption) ?_; rotate_left; (focus (intro w hSw; (try dsimp only at hSw); go_simp <;> with_reducible rfl)); try simp only [Act.put, List.setIfInBounds_toArray, List.set_cons_zero, List.set_cons_succ]
                  refine takeL 26 (v := ?_) rfl (by kernel_rfl) (by kernel_rfl) (by kernel_rfl) (fun _ _ _ h => h) (by kernel_rfl) ?_ (by assumption) ?_; rotate_left; (focus (intro w hSw; (try dsimp only at hSw); go_simp <;> with_reducible rfl)); try simp only [Act.put, List.setIfInBounds_toArray, List.set_cons_zero, List.set_cons_succ]
                  refine takeL 27 (v := ?_) rfl (by kernel_rfl) (by kernel_rfl) (by kernel_rfl) (fun _ _ _ h => h) (by kernel_rfl) ?_ (by assumption) ?_; rotate_left; (focus (intro w hSw; (try dsimp only at hSw); go_simp <;> with_reducible rfl)); try simp only [Act.put, List.setIfInBounds_toArray, List.set_cons_zero, List.set_cons_succ]
                  refine takeL 28 (v := ?_) rfl (by kernel_rfl) (by kernel_rfl) (by kernel_rfl) (fun _ _ _ h => h) (by kernel_rfl) ?_ (by assumption) ?_; rotate_left; (focus (intro w hSw; (try dsimp only at hSw); go_simp <;> with_reducible rfl)); try simp only [Act.put, List.setIfInBounds_toArray, List.set_cons_zero, List.set_cons_succ]
                  refine takeL 29 (v := ?_) rfl (by kernel_rfl) (by kernel_rfl) (by kernel_rfl) (fun _ _ _ h => h) (by kernel_rfl) ?_ (by assumption) ?_; rotate_left; (focus (intro w hSw; (try dsimp only at hSw); go_simp <;> with_reducible rfl)); try simp only [Act.put, List.setIfInBounds_toArray, List.set_cons_zero, List.set_cons_succ]
                  refine takeL 30 (v := ?_) rfl (by kernel_rfl) (by kernel_rfl) (by kernel_rfl) (fun _ _ _ h => h) (by kernel_rfl) ?_ (by assumption) ?_; rotate_left; (focus (intro w hSw; (try dsimp only at hSw); go_simp <;> with_reducible rfl)); try simp only [Act.put, List.setIfInBounds_toArray, List.set_cons_zero, List.set_cons_succ]
                  refine takeL 31 (v := ?_) rfl (by kernel_rfl) (by kernel_rfl) (by kernel_rfl) (fun _ _ _ h => h) (by kernel_rfl) ?_ (by assumption) ?_; rotate_left; (focus (intro w hSw; (try dsimp only at hSw); go_simp <;> with_reducible rfl)); try simp only [Act.put, List.setIfInBounds_toArray, List.set_cons_zero, List.set_cons_succ]
                  refine takeL 32 (v := ?_) rfl (by kernel_rfl) (by kernel_rfl) (by kernel_rfl) (fun _ _ _ h => h) (by kernel_rfl) ?_ (by assumption) ?_; rotate_left; (focus (intro w hSw; (try dsimp only at hSw); go_simp <;> with_reducible rfl)); try simp only [Act.put, List.setIfInBounds_toArray, List.set_cons_zero, List.set_cons_succ]
                  refine wpAnyH_done (by kernel_rfl) ?_ _
                  go_wp2_with fail
                  go_roundw
                  case rel => exact ⟨j + 1, (yn : Int) == 64, by omega, by go_num, rfl, Lib.hid (by rw [htk.out, ← Bool.and_assoc, ← HU.out, hok.out, hd.out, decide_eq_true g0, decide_eq_true g1]; rfl), by (repeat (first | exact Below.refl _ _ | exact Ext.refl _ | assumption | refine Below.drew ?_ | refine below_drewN ?_ _ | refine below_alloc ?_ (by first | exact Nat.le_refl _ | assumption | (simp; done) | omega | (simp; omega)) _ | refine below_ext ?_ (by assumption) (by first | exact Nat.le_refl _ | assumption | (simp; done) | omega | (simp; omega)) | refine Ext.drew ?_ | refine Ext.drewN ?_ _ | refine Ext.alloc ?_ _ | refine Ext.setCell ?_ (by first | assumption | (simp; done) | (simp; omega)) _ | refine Below.setCell ?_ (by first | assumption | (simp; done) | (simp; omega)) _ | refine Ext.trans ?_ (by assumption)))⟩
                  case measure => simp [intOf]; omega
                · have g2 : decide (pos < (k : Int)) = false := by simpa using g1
                  have g3 : (k : Int) ≤ pos := by omega
                  go_wp2_with fail
                  refine wp_region_held_drew (S := fun w' => Ext wr w') (by kernel_rfl) (by (repeat (first | exact Below.refl _ _ | exact Ext.refl _ | assumption | refine Below.drew ?_ | refine below_drewN ?_ _ | refine below_alloc ?_ (by first | exact Nat.le_refl _ | assumption | (simp; done) | omega | (simp; omega)) _ | refine below_ext ?_ (by assumption) (by first | exact Nat.le_refl _ | assumption | (simp; done) | omega | (simp; omega)) | refine Ext.drew ?_ | refine Ext.drewN ?_ _ | refine Ext.alloc ?_ _ | refine Ext.setCell ?_ (by first | assumption | (simp; done) | (simp; omega)) _ | refine Below.setCell ?_ (by first | assumption | (simp; done) | (simp; omega)) _ | refine Ext.trans ?_ (by assumption)))) (fun hHeld => ?_)
                  refine takeL 0 (v := ?_) rfl (by kernel_rfl) (by kernel_rfl) (by kernel_rfl) (fun _ _ _ h => h) (by kernel_rfl) ?_ (by assumption) ?_; rotate_left; (focus (intro w hSw; (try dsimp only at hSw); go_simp <;> with_reducible rfl)); try simp only [Act.put, List.setIfInBounds_toArray, List.set_cons_zero, List.set_cons_succ]
                  refine takeL 1 (v := ?_) rfl (by kernel_rfl) (by kernel_rfl) (by kernel_rfl) (fun _ _ _ h => h) (by kernel_rfl) ?_ (by assumption) ?_; rotate_left; (focus (intro w hSw; (try dsimp only at hSw); go_simp <;> with_reducible rfl)); try simp only [Act.put, List.setIfInBounds_toArray, List.set_cons_zero, List.set_cons_succ]
                  refine takeL 2 (v := ?_) rfl (by kernel_rfl) (by kernel_rfl) (by kernel_rfl) (fun _ _ _ h => h) (by kernel_rfl) ?_ (by assumption) ?_; rotate_left; (focus (intro w hSw; (try dsimp only at hSw); go_simp <;> with_reducible rfl)); try simp only [Act.put, List.setIfInBounds_toArray, List.set_cons_zero, List.set_cons_succ]
                  refine takeL 3 (v := ?_) rfl (by kernel_rfl) (by kernel_rfl) (by kernel_rfl) (fun _ _ _ h => h) (by kernel_rfl) ?_ (by assumption) ?_; rotate_left; (focus (intro w hSw; (try dsimp only at hSw); go_simp <;> with_reducible rfl)); try simp only [Act.put, List.setIfInBounds_toArray, List.set_cons_zero, List.set_cons_succ]
                  refine takeL 4 (v := ?_) rfl (by kernel_rfl) (by kernel_rfl) (by kernel_rfl) (fun _ _ _ h => h) (by kernel_rfl) ?_ (by assumption) ?_; rotate_left; (focus (intro w hSw; (try dsimp only at hSw); go_simp <;> with_reducible rfl)); try simp only [Act.put, List.setIfInBounds_toArray, List.set_cons_zero, List.set_cons_succ]
                  refine takeL 5 (v := ?_) rfl (by kernel_rfl) (by kernel_rfl) (by kernel_rfl) (fun _ _ _ h => h) (by kernel_rfl) ?_ (by assumption) ?_; rotate_left; (focus (intro w hSw; (try dsimp only at hSw); go_simp <;> with_reducible rfl)); try simp only [Act.put, List.setIfInBounds_toArray, List.set_cons_zero, List.set_cons_succ]
                  refine takeL 6 (v := ?_) rfl (by kernel_rfl) (by kernel_rfl) (by kernel_rfl) (fun _ _ _ h => h) (by kernel_rfl) ?_ (by assumption) ?_; rotate_left; (focus (intro w hSw; (try dsimp only at hSw); go_simp <;> with_reducible rfl)); try simp only [Act.put, List.setIfInBounds_toArray, List.set_cons_zero, List.set_cons_succ]
                  refine takeL 7 (v := ?_) rfl (by kernel_rfl) (by kernel_rfl) (by kernel_rfl) (fun _ _ _ h => h) (by kernel_rfl) ?_ (by assumption) ?_; rotate_left; (focus (intro w hSw; (try dsimp only at hSw); go_simp <;> with_reducible rfl)); try simp only [Act.put, List.setIfInBounds_toArray, List.set_cons_zero, List.set_cons_succ]
                  refine takeL 8 (v := ?_) rfl (by kernel_rfl) (by kernel_rfl) (by kernel_rfl) (fun _ _ _ h => h) (by kernel_rfl) ?_ (by assumption) ?_; rotate_left; (focus (intro w hSw; (try dsimp only at hSw); go_simp <;> with_reducible rfl)); try simp only [Act.put, List.setIfInBounds_toArray, List.set_cons_zero, List.set_cons_succ]
                  refine takeL 9 (v := ?_) rfl (by kernel_rfl) (by kernel_rfl) (by kernel_rfl) (fun _ _ _ h => h) (by kernel_rfl) ?_ (by assumption) ?_; rotate_left; (focus (intro w hSw; (try dsimp only at hSw); go_simp <;> with_reducible rfl)); try simp only [Act.put, List.setIfInBounds_toArray, List.set_cons_zero, List.set_cons_succ]
                  refine takeL 10 (v := ?_) rfl (by kernel_rfl) (by kernel_rfl) (by kernel_rfl) (fun _ _ _ h => h) (by kernel_rfl) ?_ (by assumption) ?_; rotate_left; (focus (intro w hSw; (try dsimp only at hSw); go_simp <;> with_reducible rfl)); try simp only [Act.put, List.setIfInBounds_toArray, List.set_cons_zero, List.set_cons_succ]
                  refine takeL 11 (v := ?_) rfl (by kernel_rfl) (by kernel_rfl) (by kernel_rfl) (fun _ _ _ h => h) (by kernel_rfl) ?_ (by assumption) ?_; rotate_left; (focus (intro w hSw; (try dsimp only at hSw); go_simp <;> with_reducible rfl)); try simp only [Act.put, List.setIfInBounds_toArray, List.set_cons_zero, List.set_cons_succ]
                  refine takeL 12 (v := ?_) rfl (by kernel_rfl) (by kernel_rfl) (by kernel_rfl) (fun _ _ _ h => h) (by kernel_rfl) ?_ (by assumption) ?_; rotate_left; (focus (intro w hSw; (try dsimp only at hSw); go_simp <;> with_reducible rfl)); try simp only [Act.put, List.setIfInBounds_toArray, List.set_cons_zero, List.set_cons_succ]
                  refine takeL 13 (v := ?_) rfl (by kernel_rfl) (by kernel_rfl) (by kernel_rfl) (fun _ _ _ h => h) (by kernel_rfl) ?_ (by assumption) ?_; rotate_left; (focus (intro w hSw; (try dsimp only at hSw); go_simp <;> with_reducible rfl)); try simp only [Act.put, List.setIfInBounds_toArray, List.set_cons_zero, List.set_cons_succ]
                  refine takeL 14 (v := ?_) rfl (by kernel_rfl) (by kernel_rfl) (by kernel_rfl) (fun _ _ _ h => h) (by kernel_rfl) ?_ (by assumption) ?_; rotate_left; (focus (intro w hSw; (try dsimp only at hSw); go_simp <;> with_reducible rfl)); try simp only [Act.put, List.setIfInBounds_toArray, List.set_cons_zero, List.set_cons_succ]
                  refine takeL 15 (v := ?_) rfl (by kernel_rfl) (by kernel_rfl) (by kernel_rfl) (fun _ _ _ h => h) (by kernel_rfl) ?_ (by assumption) ?_; rotate_left; (focus (intro w hSw; (try dsimp only at hSw); go_simp <;> with_reducible rfl)); try simp only [Act.put, List.setIfInBounds_toArray, List.set_cons_zero, List.set_cons_succ]
                  refine takeL 16 (v := ?_) rfl (by kernel_rfl) (by kernel_rfl) (by kernel_rfl) (fun _ _ _ h => h) (by kernel_rfl) ?_ (by assumption) ?_; rotate_left; (focus (intro w hSw; (try dsimp only at hSw); go_simp <;> with_reducible rfl)); try simp only [Act.put, List.setIfInBounds_toArray, List.set_cons_zero, List.set_cons_succ]
                  refine takeL 17 (v := ?_) rfl (by kernel_rfl) (by kernel_rfl) (by kernel_rfl) (fun _ _ _ h => h) (by kernel_rfl) ?_ (by assumption) ?_; rotate_left; (focus (intro w hSw; (try dsimp only at hSw); go_simp <;> with_reducible rfl)); try simp only [Act.put, List.setIfInBounds_toArray, List.set_cons_zero, List.set_cons_succ]
                  refine takeL 18 (v := ?_) rfl (by kernel_rfl) (by kernel_rfl) (by kernel_rfl) (fun _ _ _ h => h) (by kernel_rfl) ?_ (by assumption) ?_; rotate_left; (focus (intro w hSw; (try dsimp only at hSw); go_simp <;> with_reducible rfl)); try simp only [Act.put, List.setIfInBounds_toArray, List.set_cons_zero, List.set_cons_succ]
                  refine takeL 19 (v := ?_) rfl (by kernel_rfl) (by kernel_rfl) (by kernel_rfl) (fun _ _ _ h => h) (by kernel_rfl) ?_ (by assumption) ?_; rotate_left; (focus (intro w hSw; (try dsimp only at hSw); go_simp <;> with_reducible rfl)); try simp only [Act.put, List.setIfInBounds_toArray, List.set_cons_zero, List.set_cons_succ]
                  refine takeL 20 (v := ?_) rfl (by kernel_rfl) (by kernel_rfl) (by kernel_rfl) (fun _ _ _ h => h) (by kernel_rfl) ?_ (by assumption) ?_; rotate_left; (focus (intro w hSw; (try dsimp only at hSw); go_simp <;> with_reducible rfl)); try simp only [Act.put, List.setIfInBounds_toArray, List.set_cons_zero, List.set_cons_succ]
                  refine takeL 21 (v := ?_) rfl (by kernel_rfl) (by kernel_rfl) (by kernel_rfl) (fun _ _ _ h => h) (by kernel_rfl) ?_ (by assumption) ?_; rotate_left; (focus (intro w hSw; (try dsimp only at hSw); go_simp <;> with_reducible rfl)); try simp only [Act.put, List.setIfInBounds_toArray, List.set_cons_zero, List.set_cons_succ]
                  refine takeL 22 (v := ?_) rfl (by kernel_rfl) (by kernel_rfl) (by kernel_rfl) (fun _ _ _ h => h) (by kernel_rfl) ?_ (by assumption) ?_; rotate_left; (focus (intro w hSw; (try dsimp only at hSw); go_simp <;> with_reducible rfl)); try simp only [Act.put, List.setIfInBounds_toArray, List.set_cons_zero, List.set_cons_succ]
                  refine skipL 23 rfl (by kernel_rfl) (by kernel_rfl) (by kernel_rfl) (fun _ _ _ h => h) (by kernel_rfl) (by assumption) ?_; try simp only [Act.put, List.setIfInBounds_toArray, List.set_cons_zero, List.set_cons_succ]
                  refine skipL 24 rfl (by kernel_rfl) (by kernel_rfl) (by kernel_rfl) (fun _ _ _ h => h) (by kernel_rfl) (by assumption) ?_; try simp only [Act.put, List.setIfInBounds_toArray, List.set_cons_zero, List.set_cons_succ]
                  refine skipL 25 rfl (by kernel_rfl) (by kernel_rfl) (by kernel_rfl) (fun _ _ _ h => h) (by kernel_rfl) (by assumption) ?_; try simp only [Act.put, List.setIfInBounds_toArray, List.set_cons_zero, List.set_cons_succ]
                  refine skipL 26 rfl (by kernel_rfl) (by kernel_rfl) (by kernel_rfl) (fun _ _ _ h => h) (by kernel_rfl) (by assumption) ?_; try simp only [Act.put, List.setIfInBounds_toArray, List.set_cons_zero, List.set_cons_succ]
                  refine skipL 27 rfl (by kernel_rfl) (by kernel_rfl) (by kernel_rfl) (fun _ _ _ h => h) (by kernel_rfl) (by assumption) ?_; try simp only [Act.put, List.setIfInBounds_toArray, List.set_cons_zero, List.set_cons_succ]
                  refine skipL 28 rfl (by kernel_rfl) (by kernel_rfl) (by kernel_rfl) (fun _ _ _ h => h) (by kernel_rfl) (by assumption) ?_; try simp only [Act.put, List.setIfInBounds_toArray, List.set_cons_zero, List.set_cons_succ]
                  refine skipL 29 rfl (by kernel_rfl) (by kernel_rfl) (by kernel_rfl) (fun _ _ _ h => h) (by kernel_rfl) (by assumption) ?_; try simp only [Act.put, List.setIfInBounds_toArray, List.set_cons_zero, List.set_cons_succ]
                  refine skipL 30 rfl (by kernel_rfl) (by kernel_rfl) (by kernel_rfl) (fun _ _ _ h => h) (by kernel_rfl) (by assumption) ?_; try simp only [Act.put, List.setIfInBounds_toArray, List.set_cons_zero, List.set_cons_succ]
                  refine takeL 31 (v := ?_) rfl (by kernel_rfl) (by kernel_rfl) (by kernel_rfl) (fun _ _ _ h => h) (by kernel_rfl) ?_ (by assumption) ?_; rotate_left; (focus (intro w hSw; (try dsimp only at hSw); go_simp <;> with_reducible rfl)); try simp only [Act.put, List.setIfInBounds_toArray, List.set_cons_zero, List.set_cons_succ]
                  refine takeL 32 (v := ?_) rfl (by kernel_rfl) (by kernel_rfl) (by kernel_rfl) (fun _ _ _ h => h) (by kernel_rfl) ?_ (by assumption) ?_; rotate_left; (focus (intro w hSw; (try dsimp only at hSw); go_simp <;> with_reducible rfl)); try simp only [Act.put, List.setIfInBounds_toArray, List.set_cons_zero, List.set_cons_succ]
                  refine wpAnyH_done (by kernel_rfl) ?_ _
                  go_wp2_with fail
                  go_roundw
                  case rel => exact ⟨j + 1, false, by omega, by go_num, rfl, Lib.hid (by rw [htk.out, ← Bool.and_assoc, ← HU.out, hok.out, g2, Bool.and_false, Bool.false_and]; rfl), by (repeat (first | exact Below.refl _ _ | exact Ext.refl _ | assumption | refine Below.drew ?_ | refine below_drewN ?_ _ | refine below_alloc ?_ (by first | exact Nat.le_refl _ | assumption | (simp; done) | omega | (simp; omega)) _ | refine below_ext ?_ (by assumption) (by first | exact Nat.le_refl _ | assumption | (simp; done) | omega | (simp; omega)) | refine Ext.drew ?_ | refine Ext.drewN ?_ _ | refine Ext.alloc ?_ _ | refine Ext.setCell ?_ (by first | assumption | (simp; done) | (simp; omega)) _ | refine Below.setCell ?_ (by first | assumption | (simp; done) | (simp; omega)) _ | refine Ext.trans ?_ (by assumption)))⟩
                  case measure => simp [intOf]; omega
              · have g2 : decide (0 ≤ pos) = false := by simpa using g0
                have g3 : pos < 0 := by omega
                go_wp2_with fail
                refine wp_region_held_drew (S := fun w' => Ext wr w') (by kernel_rfl) (by (repeat (first | exact Below.refl _ _ | exact Ext.refl _ | assumption | refine Below.drew ?_ | refine below_drewN ?_ _ | refine below_alloc ?_ (by first | exact Nat.le_refl _ | assumption | (simp; done) | omega | (simp; omega)) _ | refine below_ext ?_ (by assumption) (by first | exact Nat.le_refl _ | assumption | (simp; done) | omega | (simp; omega)) | refine Ext.drew ?_ | refine Ext.drewN ?_ _ | refine Ext.alloc ?_ _ | refine Ext.setCell ?_ (by first | assumption | (simp; done) | (simp; omega)) _ | refine Below.setCell ?_ (by first | assumption | (simp; done) | (simp; omega)) _ | refine Ext.trans ?_ (by assumption)))) (fun hHeld => ?_)
                refine takeL 0 (v := ?_) rfl (by kernel_rfl) (by kernel_rfl) (by kernel_rfl) (fun _ _ _ h => h) (by kernel_rfl) ?_ (by assumption) ?_; rotate_left; (focus (intro w hSw; (try dsimp only at hSw); go_simp <;> with_reducible rfl)); try simp only [Act.put, List.setIfInBounds_toArray, List.set_cons_zero, List.set_cons_succ]
                refine takeL 1 (v := ?_) rfl (by kernel_rfl) (by kernel_rfl) (by kernel_rfl) (fun _ _ _ h => h) (by kernel_rfl) ?_ (by assumption) ?_; rotate_left; (focus (intro w hSw; (try dsimp only at hSw); go_simp <;> with_reducible rfl)); try simp only [Act.put, List.setIfInBounds_toArray, List.set_cons_zero, List.set_cons_succ]
                refine takeL 2 (v := ?_) rfl (by kernel_rfl) (by kernel_rfl) (by kernel_rfl) (fun _ _ _ h => h) (by kernel_rfl) ?_ (by assumption) ?_; rotate_left; (focus (intro w hSw; (try dsimp only at hSw); go_simp <;> with_reducible rfl)); try simp only [Act.put, List.setIfInBounds_toArray, List.set_cons_zero, List.set_cons_succ]
                refine takeL 3 (v := ?_) rfl (by kernel_rfl) (by kernel_rfl) (by kernel_rfl) (fun _ _ _ h => h) (by kernel_rfl) ?_ (by assumption) ?_; rotate_left; (focus (intro w hSw; (try dsimp only at hSw); go_simp <;> with_reducible rfl)); try simp only [Act.put, List.setIfInBounds_toArray, List.set_cons_zero, List.set_cons_succ]
                refine takeL 4 (v := ?_) rfl (by kernel_rfl) (by kernel_rfl) (by kernel_rfl) (fun _ _ _ h => h) (by kernel_rfl) ?_ (by assumption) ?_; rotate_left; (focus (intro w hSw; (try dsimp only at hSw); go_simp <;> with_reducible rfl)); try simp only [Act.put, List.setIfInBounds_toArray, List.set_cons_zero, List.set_cons_succ]
                refine takeL 5 (v := ?_) rfl (by kernel_rfl) (by kernel_rfl) (by kernel_rfl) (fun _ _ _ h => h) (by kernel_rfl) ?_ (by assumption) ?_; rotate_left; (focus (intro w hSw; (try dsimp only at hSw); go_simp <;> with_reducible rfl)); try simp only [Act.put, List.setIfInBounds_toArray, List.set_cons_zero, List.set_cons_succ]
                refine takeL 6 (v := ?_) rfl (by kernel_rfl) (by kernel_rfl) (by kernel_rfl) (fun _ _ _ h => h) (by kernel_rfl) ?_ (by assumption) ?_; rotate_left; (focus (intro w hSw; (try dsimp only at hSw); go_simp <;> with_reducible rfl)); try simp only [Act.put, List.setIfInBounds_toArray, List.set_cons_zero, List.set_cons_succ]
                refine takeL 7 (v := ?_) rfl (by kernel_rfl) (by kernel_rfl) (by kernel_rfl) (fun _ _ _ h => h) (by kernel_rfl) ?_ (by assumption) ?_; rotate_left; (focus (intro w hSw; (try dsimp only at hSw); go_simp <;> with_reducible rfl)); try simp only [Act.put, List.setIfInBounds_toArray, List.set_cons_zero, List.set_cons_succ]
                refine takeL 8 (v := ?_) rfl (by kernel_rfl) (by kernel_rfl) (by kernel_rfl) (fun _ _ _ h => h) (by kernel_rfl) ?_ (by assumption) ?_; rotate_left; (focus (intro w hSw; (try dsimp only at hSw); go_simp <;> with_reducible rfl)); try simp only [Act.put, List.setIfInBounds_toArray, List.set_cons_zero, List.set_cons_succ]
                refine takeL 9 (v := ?_) rfl (by kernel_rfl) (by kernel_rfl) (by kernel_rfl) (fun _ _ _ h => h) (by kernel_rfl) ?_ (by assumption) ?_; rotate_left; (focus (intro w hSw; (try dsimp only at hSw); go_simp <;> with_reducible rfl)); try simp only [Act.put, List.setIfInBounds_toArray, List.set_cons_zero, List.set_cons_succ]
                refine takeL 10 (v := ?_) rfl (by kernel_rfl) (by kernel_rfl) (by kernel_rfl) (fun _ _ _ h => h) (by kernel_rfl) ?_ (by assumption) ?_; rotate_left; (focus (intro w hSw; (try dsimp only at hSw); go_simp <;> with_reducible rfl)); try simp only [Act.put, List.setIfInBounds_toArray, List.set_cons_zero, List.set_cons_succ]
                refine skipL 11 rfl (by kernel_rfl) (by kernel_rfl) (by kernel_rfl) (fun _ _ _ h => h) (by kernel_rfl) (by assumption) ?_; try simp only [Act.put, List.setIfInBounds_toArray, List.set_cons_zero, List.set_cons_succ]
                refine skipL 12 rfl (by kernel_rfl) (by kernel_rfl) (by kernel_rfl) (fun _ _ _ h => h) (by kernel_rfl) (by assumption) ?_; try simp only [Act.put, List.setIfInBounds_toArray, List.set_cons_zero, List.set_cons_succ]
                refine skipL 13 rfl (by kernel_rfl) (by kernel_rfl) (by kernel_rfl) (fun _ _ _ h => h) (by kernel_rfl) (by assumption) ?_; try simp only [Act.put, List.setIfInBounds_toArray, List.set_cons_zero, List.set_cons_succ]
                refine skipL 14 rfl (by kernel_rfl) (by kernel_rfl) (by kernel_rfl) (fun _ _ _ h => h) (by kernel_rfl) (by assumption) ?_; try simp only [Act.put, List.setIfInBounds_toArray, List.set_cons_zero, List.set_cons_succ]
                refine skipL 15 rfl (by kernel_rfl) (by kernel_rfl) (by kernel_rfl) (fun _ _ _ h => h) (by kernel_rfl) (by assumption) ?_; try simp only [Act.put, List.setIfInBounds_toArray, List.set_cons_zero, List.set_cons_succ]
                refine skipL 16 rfl (by kernel_rfl) (by kernel_rfl) (by kernel_rfl) (fun _ _ _ h => h) (by kernel_rfl) (by assumption) ?_; try simp only [Act.put, List.setIfInBounds_toArray, List.set_cons_zero, List.set_cons_succ]
                refine skipL 17 rfl (by kernel_rfl) (by kernel_rfl) (by kernel_rfl) (fun _ _ _ h => h) (by kernel_rfl) (by assumption) ?_; try simp only [Act.put, List.setIfInBounds_toArray, List.set_cons_zero, List.set_cons_succ]
                refine skipL 18 rfl (by kernel_rfl) (by kernel_rfl) (by kernel_rfl) (fun _ _ _ h => h) (by kernel_rfl) (by assumption) ?_; try simp only [Act.put, List.setIfInBounds_toArray, List.set_cons_zero, List.set_cons_succ]
                refine skipL 19 rfl (by kernel_rfl) (by kernel_rfl) (by kernel_rfl) (fun _ _ _ h => h) (by kernel_rfl) (by assumption) ?_; try simp only [Act.put, List.setIfInBounds_toArray, List.set_cons_zero, List.set_cons_succ]
                refine skipL 20 rfl (by kernel_rfl) (by kernel_rfl) (by kernel_rfl) (fun _ _ _ h => h) (by kernel_rfl) (by assumption) ?_; try simp only [Act.put, List.setIfInBounds_toArray, List.set_cons_zero, List.set_cons_succ]
                refine takeL 21 (v := ?_) rfl (by kernel_rfl) (by kernel_rfl) (by kernel_rfl) (fun _ _ _ h => h) (by kernel_rfl) ?_ (by assumption) ?_; rotate_left; (focus (intro w hSw; (try dsimp only at hSw); go_simp <;> with_reducible rfl)); try simp only [Act.put, List.setIfInBounds_toArray, List.set_cons_zero, List.set_cons_succ]
                refine takeL 22 (v := ?_) rfl (by kernel_rfl) (by kernel_rfl) (by kernel_rfl) (fun _ _ _ h => h) (by kernel_rfl) ?_ (by assumption) ?_; rotate_left; (focus (intro w hSw; (try dsimp only at hSw); go_simp <;> with_reducible rfl)); try simp only [Act.put, List.setIfInBounds_toArray, List.set_cons_zero, List.set_cons_succ]
                refine skipL 23 rfl (by kernel_rfl) (by kernel_rfl) (by kernel_rfl) (fun _ _ _ h => h) (by kernel_rfl) (by assumption) ?_; try simp only [Act.put, List.setIfInBounds_toArray, List.set_cons_zero, List.set_cons_succ]
                refine skipL 24 rfl (by kernel_rfl) (by kernel_rfl) (by kernel_rfl) (fun _ _ _ h => h) (by kernel_rfl) (by assumption) ?_; try simp only [Act.put, List.setIfInBounds_toArray, List.set_cons_zero, List.set_cons_succ]
                refine skipL 25 rfl (by kernel_rfl) (by kernel_rfl) (by kernel_rfl) (fun _ _ _ h => h) (by kernel_rfl) (by assumption) ?_; try simp only [Act.put, List.setIfInBounds_toArray, List.set_cons_zero, List.set_cons_succ]
                refine skipL 26 rfl (by kernel_rfl) (by kernel_rfl) (by kernel_rfl) (fun _ _ _ h => h) (by kernel_rfl) (by assumption) ?_; try simp only [Act.put, List.setIfInBounds_toArray, List.set_cons_zero, List.set_cons_succ]
                refine skipL 27 rfl (by kernel_rfl) (by kernel_rfl) (by kernel_rfl) (fun _ _ _ h => h) (by kernel_rfl) (by assumption) ?_; try simp only [Act.put, List.setIfInBounds_toArray, List.set_cons_zero, List.set_cons_succ]
                refine skipL 28 rfl (by kernel_rfl) (by kernel_rfl) (by kernel_rfl) (fun _ _ _ h => h) (by kernel_rfl) (by assumption) ?_; try simp only [Act.put, List.setIfInBounds_toArray, List.set_cons_zero, List.set_cons_succ]
                refine skipL 29 rfl (by kernel_rfl) (by kernel_rfl) (by kernel_rfl) (fun _ _ _ h => h) (by kernel_rfl) (by assumption) ?_; try simp only [Act.put, List.setIfInBounds_toArray, List.set_cons_zero, List.set_cons_succ]
                refine skipL 30 rfl (by kernel_rfl) (by kernel_rfl) (by kernel_rfl) (fun _ _ _ h => h) (by kernel_rfl) (by assumption) ?_; try simp only [Act.put, List.setIfInBounds_toArray, List.set_cons_zero, List.set_cons_succ]
                refine takeL 31 (v := ?_) rfl (by kernel_rfl) (by kernel_rfl) (by kernel_rfl) (fun _ _ _ h => h) (by kernel_rfl) ?_ (by assumption) ?_; rotate_left; (focus (intro w hSw; (try dsimp only at hSw); go_simp <;> with_reducible rfl)); try simp only [Act.put, List.setIfInBounds_toArray, List.set_cons_zero, List.set_cons_succ]
                refine takeL 32 (v := ?_) rfl (by kernel_rfl) (by kernel_rfl) (by kernel_rfl) (fun _ _ _ h => h) (by kernel_rfl) ?_ (by assumption) ?_; rotate_left; (focus (intro w hSw; (try dsimp only at hSw); go_simp <;> with_reducible rfl)); try simp only [Act.put, List.setIfInBounds_toArray, List.set_cons_zero, List.set_cons_succ]
                refine wpAnyH_done (by kernel_rfl) ?_ _
                go_wp2_with fail
                go_roundw
                case rel => exact ⟨j + 1, false, by omega, by go_num, rfl, Lib.hid (by rw [htk.out, ← Bool.and_assoc, ← HU.out, hok.out, g2]; rfl), by (repeat (first | exact Below.refl _ _ | exact Ext.refl _ | assumption | refine Below.drew ?_ | refine below_drewN ?_ _ | refine below_alloc ?_ (by first | exact Nat.le_refl _ | assumption | (simp; done) | omega | (simp; omega)) _ | refine below_ext ?_ (by assumption) (by first | exact Nat.le_refl _ | assumption | (simp; done) | omega | (simp; omega)) | refine Ext.drew ?_ | refine Ext.drewN ?_ _ | refine Ext.alloc ?_ _ | refine Ext.setCell ?_ (by first | assumption | (simp; done) | (simp; omega)) _ | refine Below.setCell ?_ (by first | assumption | (simp; done) | (simp; omega)) _ | refine Ext.trans ?_ (by assumption)))⟩
                case measure => simp [intOf]; omega
          · obtain rfl : j = n1 := by omega
            have HU2 := Lib.hid (show u = decide (chkE d = 0) by
              rw [← HB.out, HN0.out, Hr.out, ← HV2.out, HU.out, List.take_of_length_le (by rw [← HD.out.waits.len, HN1.out]; exact Nat.le_refl _)])
            have e40 := Lib.hid e4
            have zz := Z.out
            have y4 := e4.size
            have zr0 : w.heap.size < wr.heap.size := by omega
            have zr1 : w.heap.size + 1 < wr.heap.size := by omega
            have xr : Ext w wr := x2.trans e4
            go_wp2_with fail
            refine (HKN.out _).mono ?_
            rintro e w5 ⟨⟨dn, rfl, _⟩, e5⟩
            obtain ⟨⟨nA, nn, nc, nx⟩, ⟨nB, nm, nk, ny⟩⟩ := dn
            simp only [Dev.cells, Sl.val]
            have x5 : Ext w2 w5 := e4.trans e5
            have y5 := x5.size
            have z50 : w.heap.size < w5.heap.size := by omega
            have z51 : w.heap.size + 1 < w5.heap.size := by omega
            go_wp2_with fail
            refine (HKR.out _ (by (repeat (first | exact Below.refl _ _ | exact Ext.refl _ | assumption | refine Below.drew ?_ | refine below_drewN ?_ _ | refine below_alloc ?_ (by first | exact Nat.le_refl _ | assumption | (simp; done) | omega | (simp; omega)) _ | refine below_ext ?_ (by assumption) (by first | exact Nat.le_refl _ | assumption | (simp; done) | omega | (simp; omega)) | refine Ext.drew ?_ | refine Ext.drewN ?_ _ | refine Ext.alloc ?_ _ | refine Ext.setCell ?_ (by first | assumption | (simp; done) | (simp; omega)) _ | refine Below.setCell ?_ (by first | assumption | (simp; done) | (simp; omega)) _ | refine Ext.trans ?_ (by assumption))))).mono ?_
            rintro e w6 ⟨⟨xA, xn, xc, rfl, hxn⟩, e6⟩
            have x6 : Ext w2 w6 := by (repeat (first | exact Below.refl _ _ | exact Ext.refl _ | assumption | refine Below.drew ?_ | refine below_drewN ?_ _ | refine below_alloc ?_ (by first | exact Nat.le_refl _ | assumption | (simp; done) | omega | (simp; omega)) _ | refine below_ext ?_ (by assumption) (by first | exact Nat.le_refl _ | assumption | (simp; done) | omega | (simp; omega)) | refine Ext.drew ?_ | refine Ext.drewN ?_ _ | refine Ext.alloc ?_ _ | refine Ext.setCell ?_ (by first | assumption | (simp; done) | (simp; omega)) _ | refine Below.setCell ?_ (by first | assumption | (simp; done) | (simp; omega)) _ | refine Ext.trans ?_ (by assumption)))
            have y6 := x6.size
            have z60 : w.heap.size < w6.heap.size := by omega
            have z61 : w.heap.size + 1 < w6.heap.size := by omega
            have HXN := Lib.hid hxn
            clear hxn
            go_wp2_with fail
            refine (HKD.out w6 _ (x2.trans x6) rfl).mono ?_
            rintro e w7 ⟨⟨dy, rfl, hdy⟩, e7⟩
            have HDY := Lib.hid hdy
            clear hdy
            obtain ⟨⟨yA, yn, yc, yx⟩, ⟨yB, ym, yk, yy⟩⟩ := dy
            simp only [Dev.cells, Sl.val]
            have x7 : Ext w2 w7 := by (repeat (first | exact Below.refl _ _ | exact Ext.refl _ | assumption | refine Below.drew ?_ | refine below_drewN ?_ _ | refine below_alloc ?_ (by first | exact Nat.le_refl _ | assumption | (simp; done) | omega | (simp; omega)) _ | refine below_ext ?_ (by assumption) (by first | exact Nat.le_refl _ | assumption | (simp; done) | omega | (simp; omega)) | refine Ext.drew ?_ | refine Ext.drewN ?_ _ | refine Ext.alloc ?_ _ | refine Ext.setCell ?_ (by first | assumption | (simp; done) | (simp; omega)) _ | refine Below.setCell ?_ (by first | assumption | (simp; done) | (simp; omega)) _ | refine Ext.trans ?_ (by assumption)))
            have y7 := x7.size
            have z70 : w.heap.size < w7.heap.size := by omega
            have z71 : w.heap.size + 1 < w7.heap.size := by omega
            go_wp2_with fail
            generalize hw8 : World.alloc w7 _ = w8
            obtain ⟨e8, z8, G8⟩ := box_cells hw8
            have gy0 := G8 0 _ rfl
            clear hw8 G8
            have x8 : Ext w2 w8 := x7.trans e8
            refine (HKC.out _ (x2.trans x8)).mono ?_
            rintro e w9 ⟨⟨dz, rfl, hdz⟩, e9⟩
            have HDZ := Lib.hid hdz
            clear hdz
            obtain ⟨⟨zA, zn, zc, zx⟩, ⟨zB, zm, zk, zy⟩⟩ := dz
            simp only [Dev.cells, Sl.val]
            have x9 : Ext w2 w9 := x8.trans e9
            go_upto_region 16 with (fail)
            generalize hw10 : World.alloc w9 _ = w10
            obtain ⟨e10, z10, G10⟩ := box_cells hw10
            have gz0 := G10 0 _ rfl
            have gz1 := G10 1 _ rfl
            clear hw10 G10
            have x10 : Ext w2 w10 := x9.trans e10
            have t8 : Ext w8 w10 := e9.trans e10
            have t10 := Ext.refl w10
            have hm0 : zm = 0 := HDZ.out.1
            subst hm0
            go_cut [120] from 111 to 120 (fun s wx => s = .bool false ∧ w10 = wx)
            case first =>
              have hcase : (n < 2 ∧ (newE n == 0) = false) ∨ (2 ≤ n ∧ n ≤ 8192 ∧ (newE n == 0) = true) ∨ (2 ≤ n ∧ 8192 < n ∧ (newE n == 0) = false) := by
                unfold newE
                by_cases q1 : 2 ≤ n <;> by_cases q2 : n ≤ 8192 <;> simp [q1, q2] <;> omega
              rcases hcase with ⟨q1, q2⟩ | ⟨q1, q2, q3⟩ | ⟨q1, q2, q3⟩
              all_goals
                go_wp2_with (go_at_call 12; refine (num_any _ _).mono ?_; rintro e wb ⟨rfl, rfl⟩)
                go_meet
                (first | exact ⟨rfl, rfl⟩ | exact ⟨congrArg Value.bool (by simp; omega), rfl⟩)
            case rest =>
              obtain ⟨rfl, rfl⟩ := hcut
              rcases chk_09 d with hc | hc
              · have hu : u = true := by rw [HU2.out, hc]; rfl
                subst hu
                have hd0 := Lib.hid (show doE d a = faultE k a by rw [doE, if_pos hc, HN0.out])
                have hr0 := Lib.hid (show readE d n = if 0 ≤ n ∧ n < (k : Int) then 0 else 4 by rw [readE, if_neg (by rw [hc]; decide), HN0.out])
                have hncase : (n < 0 ∧ readE d n = 4) ∨ (0 ≤ n ∧ (k : Int) ≤ n ∧ readE d n = 4) ∨ (0 ≤ n ∧ n < (k : Int) ∧ readE d n = 0) := by
                  rw [hr0.out]
                  by_cases q1 : 0 ≤ n <;> by_cases q2 : n < (k : Int) <;> simp [q1, q2] <;> omega
                have hacase : (a.flush = true ∧ doE d a = 0) ∨ (a.flush = false ∧ a.pos < 0 ∧ doE d a = 4) ∨ (a.flush = false ∧ 0 ≤ a.pos ∧ (k : Int) ≤ a.pos ∧ doE d a = 4) ∨ (a.flush = false ∧ 0 ≤ a.pos ∧ a.pos < (k : Int) ∧ ((n2 : Int) != 64) = true ∧ doE d a = 5) ∨
                    (a.flush = false ∧ 0 ≤ a.pos ∧ a.pos < (k : Int) ∧ ((n2 : Int) != 64) = false ∧ doE d a = 0) := by
                  rw [hd0.out, faultE_eq, HN2.out]
                  cases a.flush
                  · by_cases q1 : 0 ≤ a.pos <;> by_cases q2 : a.pos < (k : Int) <;> by_cases q3 : n2 = 64 <;> simp [q1, q2, q3] <;> omega
                  · simp
                have hx9 := HXN.out
                rcases hncase with ⟨q1, hr⟩ | ⟨q1, q2, hr⟩ | ⟨q1, q2, hr⟩
                all_goals
                  rw [hr] at hx9
                  simp at hx9
                  subst hx9
                  rcases hacase with ⟨r1, hd⟩ | ⟨r1, r2, hd⟩ | ⟨r1, r2, r3, hd⟩ | ⟨r1, r2, r3, r4, hd⟩ | ⟨r1, r2, r3, r4, hd⟩
                  all_goals
                    go_wp2_with (go_at_call 15; refine (HKK.out _ (x2.trans x10)).mono ?_; rintro e w11 ⟨rfl, e11⟩; have t11 : Ext w10 w11 := e11; have t12 : Ext w8 w11 := t8.trans e11; have x11 : Ext w2 w11 := x10.trans e11)
                    go_ret
                    refine ⟨?_, by (repeat (first | exact Below.refl _ _ | exact Ext.refl _ | assumption | refine Below.drew ?_ | refine below_drewN ?_ _ | refine below_alloc ?_ (by first | exact Nat.le_refl _ | assumption | (simp; done) | omega | (simp; omega)) _ | refine below_ext ?_ (by assumption) (by first | exact Nat.le_refl _ | assumption | (simp; done) | omega | (simp; omega)) | refine Ext.drew ?_ | refine Ext.drewN ?_ _ | refine Ext.alloc ?_ _ | refine Ext.setCell ?_ (by first | assumption | (simp; done) | (simp; omega)) _ | refine Below.setCell ?_ (by first | assumption | (simp; done) | (simp; omega)) _ | refine Ext.trans ?_ (by assumption)))⟩
                    (first | rfl | exact retB (by simp; omega) | exact retB (by simp [*]))
              · have hu : u = false := by rw [HU2.out, hc]; rfl
                subst hu
                have hr : readE d n = 9 := by rw [readE, if_pos (by rw [hc]; decide), hc]
                have hd : doE d a = 9 := by rw [doE, if_neg (by rw [hc]; decide), hc]
                have hx0 : xn = 0 := by rw [HXN.out, hr]; rfl
                have hy0 : yn = 0 := HDY.out (by rw [hc]; decide)
                have hz0 : zn = 0 := HDZ.out.2 (by rw [hc]; decide)
                subst hx0 hy0 hz0
                go_wp2_with (go_at_call 15; refine (HKK.out _ (x2.trans x10)).mono ?_; rintro e w11 ⟨rfl, e11⟩; have t11 : Ext w10 w11 := e11; have t12 : Ext w8 w11 := t8.trans e11; have x11 : Ext w2 w11 := x10.trans e11)
                go_ret
                exact ⟨rfl, by (repeat (first | exact Below.refl _ _ | exact Ext.refl _ | assumption | refine Below.drew ?_ | refine below_drewN ?_ _ | refine below_alloc ?_ (by first | exact Nat.le_refl _ | assumption | (simp; done) | omega | (simp; omega)) _ | refine below_ext ?_ (by assumption) (by first | exact Nat.le_refl _ | assumption | (simp; done) | omega | (simp; omega)) | refine Ext.drew ?_ | refine Ext.drewN ?_ _ | refine Ext.alloc ?_ _ | refine Ext.setCell ?_ (by first | assumption | (simp; done) | (simp; omega)) _ | refine Below.setCell ?_ (by first | assumption | (simp; done) | (simp; omega)) _ | refine Ext.trans ?_ (by assumption)))⟩
end Go.Proofs.Ythjpjhcbefhpbaa
