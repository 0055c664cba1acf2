/- request.Reply; the reference's SameReply, where both are one. -/
import Derived.Test.YtpbbjmfhcgcldaaDoorRq
import Derived.Test.YtpbbjmfhcgcldaaDoorMem
import Derived.Test.YtpbbjmfhcgcldaaDoorOpens
namespace Go.Proofs.YtpbbjmfhcgcldaaDoor
open Go.RowKit
set_option linter.unusedVariables false
set_option linter.unusedSimpArgs false

structure Rep where
  err : Int
  num : Int
  data : ByteArray
  list : Sl ByteArray
def Rep.cells (r : Rep) : List Value := [.int .i64 r.err, .int .i64 r.num, .string r.data, r.list.val]
def Rep.ints (r : Rep) : List Int := [r.err, r.num]
def Rep.texts (r : Rep) : List ByteArray := [num8 r.err, num8 r.num, r.data] ++ r.list.xs
def Rep.abs (r : Rep) : Int × Int × ByteArray × List ByteArray := (r.err, r.num, r.data, r.list.xs)
structure Rep.At (w : World) (lo hi : Nat) (r : Rep) : Prop where
  e : I64 r.err
  n : I64 r.num
  len : r.list.n = r.list.xs.length
  le : r.list.n ≤ r.list.c
  cap : r.list.c ≤ maxLen
  rd : Rd w lo hi r.list.A (r.list.xs.map Value.string)
theorem Rep.At.on {w w' : World} {lo hi : Nat} {r : Rep} (h : Rep.At w lo hi r) (e : Ext w w') (hh : hi ≤ w.heap.size) : Rep.At w' lo w'.heap.size r := ⟨h.e, h.n, h.len, h.le, h.cap, Rd.at h.rd (Below.mono e hh) hh⟩
theorem Rep.At.low {w : World} {lo hi lo' : Nat} {r : Rep} (h : Rep.At w lo hi r) (hl : lo' ≤ lo) : Rep.At w lo' hi r := ⟨h.e, h.n, h.len, h.le, h.cap, h.rd.more hl (Nat.le_refl _)⟩
theorem str_one (l : List ByteArray) : ∀ u ∈ l.map Value.string, u.oneCell' = true := by
  intro u hu
  obtain ⟨s, _, rfl⟩ := List.mem_map.1 hu
  rfl
set_option maxRecDepth 100000 in
set_option maxHeartbeats 4000000 in
theorem reply_any (r : Rep) (w : World) (hr : Rep.At w 0 w.heap.size r) (hb : (r.list.n + 3) * 16 ≤ 140737488355328) :
    Calls Tryd.prog 7 #[.agg r.cells.toArray] w (OctR (octE r.ints r.texts) (octB r.ints r.texts) w) := by
  obtain ⟨er, nu, da, ⟨lA, ln, lc, lx⟩⟩ := r
  obtain ⟨i0, hi0, hz0, hz1, hz2⟩ := info_parts info9
  have HR := Lib.hid hr
  have HB := Lib.hid (show (ln + 3) * 16 ≤ 140737488355328 from hb)
  have HLn := Lib.hid (show ln = lx.length from hr.len)
  have HCn := Lib.hid (fun w1 A lo hi (hr : Rd w1 lo hi A (ints [er, nu])) (hh : hi ≤ w1.heap.size) => count_any w1 A 2 2 lo hi [er, nu] rfl (by omega) hr hh)
  have HNm := Lib.hid (fun w1 A (hr : Rd w1 0 w1.heap.size A (ints [er, nu])) => numbers_any w1 A 2 2 [er, nu] rfl hr (by omega) (fun z hz => by
    simp only [List.mem_cons, List.not_mem_nil, or_false] at hz
    rcases hz with rfl | rfl
    · exact HR.out.e
    · exact HR.out.n))
  clear hr hb
  have hv : cntE [er, nu] = if ([er, nu] : List Int).any oddI then 4 else 0 := rfl
  show Calls _ _ _ _ (OctR (octE [er, nu] ([num8 er, num8 nu, da] ++ lx)) (octB [er, nu] ([num8 er, num8 nu, da] ++ lx)) w)
  simp only [Rep.cells, Sl.val]
  cases hodd : ([er, nu] : List Int).any oddI
  · rw [hodd] at hv
    simp only [Bool.false_eq_true, if_false] at hv
    rw [hv] at HCn
    have HO := Lib.hid hodd
    clear hodd hv
    go_enter Tryd.func7, Tryd.ntmps7
    go_upto_region 1 with fail
    generalize hw1 : World.alloc w _ = w1
    obtain ⟨e1, z1, G1⟩ := box_cells hw1
    have b0 := G1 0 _ rfl
    have b1 := G1 1 _ rfl
    have b2 := G1 2 _ rfl
    have b3 := G1 3 _ rfl
    clear hw1 G1 z1
    have r1 := Ext.refl w1
    go_wp2_with fail
    refine (HCn.out _ _ _ _ (rd_new _ _ _) (by simp)).mono ?_
    rintro e w2 ⟨rfl, e2⟩
    have e3 : Ext w1 w2 := ((Ext.refl _).alloc _).trans e2
    go_wp2_with fail
    refine (HNm.out _ _ ((rd_new _ _ _).more (Nat.zero_le _) (by simp))).mono ?_
    rintro e w3 ⟨v, rfl, hown, e4⟩
    obtain ⟨A5, c5, rfl, _, _, _⟩ := own_form hown
    have e5 : Ext w1 w3 := e3.trans (((Ext.refl _).alloc _).trans e4)
    have hrd := Rd.of_own hown
    obtain ⟨nb, no, hA5, _, hnb, hnc⟩ := hrd (by simp [num8s])
    obtain rfl : A5 = some ⟨nb, no, none⟩ := hA5
    have n0 : ∀ w', Ext w3 w' → w'.cell? ⟨nb, no, none⟩ = some (.string (num8 er)) := fun w' e => by rw [Below.cell (p := ⟨nb, no, none⟩) e hnb]; simpa using hnc 0 _ rfl
    have n1 : ∀ w', Ext w3 w' → w'.cell? ⟨nb, no + 1, none⟩ = some (.string (num8 nu)) := fun w' e => by rw [Below.cell (p := ⟨nb, no + 1, none⟩) e hnb]; exact hnc 1 _ rfl
    clear hnc hrd hown hnb
    have d2 := fun w' (e : Ext w3 w') => b2 w' (e5.trans e)
    have d3 := fun w' (e : Ext w3 w') => b3 w' (e5.trans e)
    clear b0 b1 b2 b3
    have r3 := Ext.refl w3
    have x3 : Ext w w3 := e1.trans e5
    clear e2 e3 e4 e5 e1 r1
    go_wp2_with fail
    refine wp_region_held_drew (S := fun w' => Ext w3 w') (by kernel_rfl) (by (repeat (first | exact Below.refl _ _ | exact Ext.refl _ | assumption | refine Below.drew ?_ | refine below_drewN ?_ _ | refine below_alloc ?_ (by first | exact Nat.le_refl _ | assumption | (simp; done) | omega | (simp; omega)) _ | refine below_ext ?_ (by assumption) (by first | exact Nat.le_refl _ | assumption | (simp; done) | omega | (simp; omega)) | refine Ext.drew ?_ | refine Ext.drewN ?_ _ | refine Ext.alloc ?_ _ | refine Ext.setCell ?_ (by first | assumption | (simp; done) | (simp; omega)) _ | refine Below.setCell ?_ (by first | assumption | (simp; done) | (simp; omega)) _ | refine Ext.trans ?_ (by assumption)))) (fun hHeld => ?_)
    refine takeL 0 (v := ?_) rfl (by kernel_rfl) (by kernel_rfl) (by kernel_rfl) (fun _ _ _ h => h) (by kernel_rfl) ?_ (by assumption) ?_; rotate_left; (focus (intro w hSw; (try dsimp only at hSw); go_simp <;> with_reducible rfl)); try simp only [Act.put, List.setIfInBounds_toArray, List.set_cons_zero, List.set_cons_succ]
    refine takeL 1 (v := ?_) rfl (by kernel_rfl) (by kernel_rfl) (by kernel_rfl) (fun _ _ _ h => h) (by kernel_rfl) ?_ (by assumption) ?_; rotate_left; (focus (intro w hSw; (try dsimp only at hSw); go_simp <;> with_reducible rfl)); try simp only [Act.put, List.setIfInBounds_toArray, List.set_cons_zero, List.set_cons_succ]
    refine takeL 2 (v := ?_) rfl (by kernel_rfl) (by kernel_rfl) (by kernel_rfl) (fun _ _ _ h => h) (by kernel_rfl) ?_ (by assumption) ?_; rotate_left; (focus (intro w hSw; (try dsimp only at hSw); go_simp <;> with_reducible rfl)); try simp only [Act.put, List.setIfInBounds_toArray, List.set_cons_zero, List.set_cons_succ]
    refine takeL 3 (v := ?_) rfl (by kernel_rfl) (by kernel_rfl) (by kernel_rfl) (fun _ _ _ h => h) (by kernel_rfl) ?_ (by assumption) ?_; rotate_left; (focus (intro w hSw; (try dsimp only at hSw); go_simp <;> with_reducible rfl)); try simp only [Act.put, List.setIfInBounds_toArray, List.set_cons_zero, List.set_cons_succ]
    refine takeL 4 (v := ?_) rfl (by kernel_rfl) (by kernel_rfl) (by kernel_rfl) (fun _ _ _ h => h) (by kernel_rfl) ?_ (by assumption) ?_; rotate_left; (focus (intro w hSw; (try dsimp only at hSw); go_simp <;> with_reducible rfl)); try simp only [Act.put, List.setIfInBounds_toArray, List.set_cons_zero, List.set_cons_succ]
    refine takeL 5 (v := ?_) rfl (by kernel_rfl) (by kernel_rfl) (by kernel_rfl) (fun _ _ _ h => h) (by kernel_rfl) ?_ (by assumption) ?_; rotate_left; (focus (intro w hSw; (try dsimp only at hSw); go_simp <;> with_reducible rfl)); try simp only [Act.put, List.setIfInBounds_toArray, List.set_cons_zero, List.set_cons_succ]
    refine takeL 6 (v := ?_) rfl (by kernel_rfl) (by kernel_rfl) (by kernel_rfl) (fun _ _ _ h => h) (by kernel_rfl) ?_ (by assumption) ?_; rotate_left; (focus (intro w hSw; (try dsimp only at hSw); go_simp <;> with_reducible rfl)); try simp only [Act.put, List.setIfInBounds_toArray, List.set_cons_zero, List.set_cons_succ]
    refine takeL 7 (v := ?_) rfl (by kernel_rfl) (by kernel_rfl) (by kernel_rfl) (fun _ _ _ h => h) (by kernel_rfl) ?_ (by assumption) ?_; rotate_left; (focus (intro w hSw; (try dsimp only at hSw); go_simp <;> with_reducible rfl)); try simp only [Act.put, List.setIfInBounds_toArray, List.set_cons_zero, List.set_cons_succ]
    refine takeL 9 (v := ?_) rfl (by kernel_rfl) (by kernel_rfl) (by kernel_rfl) (fun _ _ _ h => h) (by kernel_rfl) ?_ (by assumption) ?_; rotate_left; (focus (intro w hSw; (try dsimp only at hSw); go_simp <;> with_reducible rfl)); try simp only [Act.put, List.setIfInBounds_toArray, List.set_cons_zero, List.set_cons_succ]
    refine takeL 10 (v := ?_) rfl (by kernel_rfl) (by kernel_rfl) (by kernel_rfl) (fun _ _ _ h => h) (by kernel_rfl) ?_ (by assumption) ?_; rotate_left; (focus (intro w hSw; (try dsimp only at hSw); go_simp <;> with_reducible rfl)); try simp only [Act.put, List.setIfInBounds_toArray, List.set_cons_zero, List.set_cons_succ]
    refine oneL 8 rfl (by kernel_rfl) (by kernel_rfl) (fun K hK => ?_); go_simp
    generalize hw4 : World.drew (World.alloc _ _) = w4
    have HOw : Hid (w4.ownsRow w3.heap.size 9 1 (.slice (some ⟨w3.heap.size, 0, none⟩) 3 3) 3 (([num8 er, num8 nu, da] : List ByteArray).map Value.string)) := by
      subst hw4
      have := own_ext (World.ownsRow_lit (base := w3.heap.size) (e := 9) (size := 1) w3 #[.string (num8 er), .string (num8 nu), .string da] 3 (Nat.le_refl _) (by simp [maxLen]) rfl) (Ext.refl _).drew
      exact this
    have e6 : Ext w3 w4 := by rw [← hw4]; exact ((Ext.refl _).alloc _).drew
    clear hw4
    refine hK.out _ _ e6 (fun hHeld => ?_)
    clear hK K
    try simp only [Act.put, List.setIfInBounds_toArray, List.set_cons_zero, List.set_cons_succ]
    refine oneL 11 rfl (by kernel_rfl) (by kernel_rfl) (fun K hK => ?_)
    have hlr := (Rd.at HR.out.rd (x3.trans e6) (Nat.le_refl _))
    have hb9 := HB.out
    refine wp_append_any w4 (.tmp 29) (.tmp 31) _ rfl w3.heap.size 9 i0 _ 1 16 Tryd.underlying25 hi0 hz0 hz1 hz2 rfl (by omega) (.slice (some ⟨w3.heap.size, 0, none⟩) 3 3) 3 _ rfl HOw.out 0 w4.heap.size lA ln lc (lx.map Value.string) rfl (by rw [List.length_map, HLn.out, Nat.mul_one]) hlr (str_one _) (by unfold maxLen; omega) (by omega) e6.size ?_
    intro v4 w5 o5 hg hob
    have e7 : Ext w3 w5 := ext_grown e6 HOw.out hg (Nat.le_refl _)
    have HO5 := Lib.hid o5
    clear o5 hg hob hlr
    obtain ⟨A4, c4, rfl, _, _, _⟩ := own_form HO5.out
    refine hK.out _ _ e7 (fun hHeld => ?_)
    clear hK K
    try simp only [Act.put, List.setIfInBounds_toArray, List.set_cons_zero, List.set_cons_succ]
    have HWr := Lib.hid (write_any w5 A4 (3 + ln) c4 ([num8 er, num8 nu, da] ++ lx) (by rw [List.length_append, ← HLn.out]; rfl) (by omega) (by rw [List.map_append]; exact (Rd.of_own HO5.out).more (Nat.zero_le _) (Nat.le_refl _)))
    refine oneL 12 rfl (by kernel_rfl) (by kernel_rfl) (fun K hK => ?_); go_simp
    refine HWr.out.mono ?_
    intro e w6 hW
    have HW := Lib.hid hW
    obtain ⟨v, rfl, ho, hx⟩ := hW
    have e8 : Ext w3 w6 := e7.trans hx
    clear ho
    go_wp2_with fail
    refine hK.out _ _ e8 (fun hHeld => ?_)
    clear hK K
    try simp only [Act.put, List.setIfInBounds_toArray, List.set_cons_zero, List.set_cons_succ]
    refine takeL 13 (v := ?_) rfl (by kernel_rfl) (by kernel_rfl) (by kernel_rfl) (fun _ _ _ h => h) (by kernel_rfl) ?_ (by assumption) ?_; rotate_left; (focus (intro w hSw; (try dsimp only at hSw); go_simp <;> with_reducible rfl)); try simp only [Act.put, List.setIfInBounds_toArray, List.set_cons_zero, List.set_cons_succ]
    refine takeL 14 (v := ?_) rfl (by kernel_rfl) (by kernel_rfl) (by kernel_rfl) (fun _ _ _ h => h) (by kernel_rfl) ?_ (by assumption) ?_; rotate_left; (focus (intro w hSw; (try dsimp only at hSw); go_simp <;> with_reducible rfl)); try simp only [Act.put, List.setIfInBounds_toArray, List.set_cons_zero, List.set_cons_succ]
    refine takeL 15 (v := ?_) rfl (by kernel_rfl) (by kernel_rfl) (by kernel_rfl) (fun _ _ _ h => h) (by kernel_rfl) ?_ (by assumption) ?_; rotate_left; (focus (intro w hSw; (try dsimp only at hSw); go_simp <;> with_reducible rfl)); try simp only [Act.put, List.setIfInBounds_toArray, List.set_cons_zero, List.set_cons_succ]
    refine takeL 16 (v := ?_) rfl (by kernel_rfl) (by kernel_rfl) (by kernel_rfl) (fun _ _ _ h => h) (by kernel_rfl) ?_ (by assumption) ?_; rotate_left; (focus (intro w hSw; (try dsimp only at hSw); go_simp <;> with_reducible rfl)); try simp only [Act.put, List.setIfInBounds_toArray, List.set_cons_zero, List.set_cons_succ]
    refine wpAnyH_done (by kernel_rfl) ?_ _
    go_wp2_with fail
    go_ret2
    exact octR_yes HO.out HW.out (x3.trans e7)
  · rw [hodd] at hv
    simp only [if_true] at hv
    rw [hv] at HCn
    have HO := Lib.hid hodd
    clear hodd hv
    go_enter Tryd.func7, Tryd.ntmps7
    go_upto_region 1 with fail
    generalize hw1 : World.alloc w _ = w1
    obtain ⟨e1, z1, G1⟩ := box_cells hw1
    have b0 := G1 0 _ rfl
    have b1 := G1 1 _ rfl
    have b2 := G1 2 _ rfl
    have b3 := G1 3 _ rfl
    clear hw1 G1 z1
    have r1 := Ext.refl w1
    go_wp2_with fail
    refine (HCn.out _ _ _ _ (rd_new _ _ _) (by simp)).mono ?_
    rintro e w2 ⟨rfl, e2⟩
    go_wp2_with fail
    go_ret2
    exact octR_no _ _ _ _ HO.out (e1.trans (((Ext.refl _).alloc _).trans e2))
set_option maxRecDepth 100000 in
set_option maxHeartbeats 4000000 in
theorem same_any (p q : Rep) (w : World) (hp : Rep.At w 0 w.heap.size p) (hq : Rep.At w 0 w.heap.size q) (heq : p.abs = q.abs) :
    Calls Tryd.prog 19 #[.agg p.cells.toArray, .agg q.cells.toArray] w fun e w' => e = .returned (.bool true) ∧ Ext w w' := by
  obtain ⟨er, nu, da, ⟨lA, ln, lc, lx⟩⟩ := p
  obtain ⟨er2, nu2, da2, ⟨mA, mn, mc, mx⟩⟩ := q
  simp only [Rep.abs, Prod.mk.injEq] at heq
  obtain ⟨rfl, rfl, rfl, rfl⟩ := heq
  have HP := Lib.hid hp
  have HQ := Lib.hid hq
  have HLn := Lib.hid (show ln = lx.length from hp.len)
  obtain rfl : ln = mn := by have h1 : ln = lx.length := hp.len; have h2 : mn = lx.length := hq.len; omega
  have hle : ln ≤ 9223372036854775807 := Nat.le_trans hp.le hp.cap
  clear hp hq
  simp only [Rep.cells, Sl.val]
  go_enter Tryd.func19, Tryd.ntmps19
  go_upto_region 1 with fail
  generalize hw1 : World.alloc w _ = w1
  obtain ⟨e1, z1, G1⟩ := box_cells hw1
  clear hw1
  generalize hw2 : World.alloc w1 _ = w2
  obtain ⟨e2, z2, G2⟩ := box_cells hw2
  clear hw2
  rw [z1] at G2
  have a0 := fun w' (e : Ext w2 w') => G1 0 _ rfl w' (e2.trans e)
  have a1 := fun w' (e : Ext w2 w') => G1 1 _ rfl w' (e2.trans e)
  have a2 := fun w' (e : Ext w2 w') => G1 2 _ rfl w' (e2.trans e)
  have a3 := fun w' (e : Ext w2 w') => G1 3 _ rfl w' (e2.trans e)
  have b0 := G2 0 _ rfl
  have b1 := G2 1 _ rfl
  have b2 := G2 2 _ rfl
  have b3 := G2 3 _ rfl
  have x2 : Ext w w2 := e1.trans e2
  clear G1 G2 z1 z2 e1 e2
  have r2 := Ext.refl w2
  go_wp2_with fail
  go_loopw [5] (fun i wr => ∃ k : Nat, k ≤ ln ∧ i = .int .i64 k ∧ Ext w2 wr) (fun i _ => ln - (intOf i).toNat)
  case atStart => exact ⟨0, Nat.zero_le _, rfl, Ext.refl _⟩
  case round =>
    obtain ⟨k, hk, rfl, e3⟩ := hrel
    have xr := x2.trans e3
    have c3 := a3 _ e3
    have d3 := b3 _ e3
    by_cases hlt : k < ln
    · have hl : k < lx.length := by rw [← HLn.out]; exact hlt
      obtain ⟨q1, q2, rfl, _, _, f0⟩ := rd_str (Rd.at HP.out.rd xr (Nat.le_refl _)) (k := k) hl
      obtain ⟨q3, q4, rfl, _, _, f1⟩ := rd_str (Rd.at HQ.out.rd xr (Nat.le_refl _)) (k := k) hl
      generalize lx[k] = y at *
      have p0 : (0 : Int) ≤ k := by omega
      have p1 : (k : Int) < ln := by omega
      clear a0 a1 a2 a3 b0 b1 b2 b3 r2
      go_wp2_with fail
      refine wp_region_held_drew (S := fun w' => w' = wr.drew) (by kernel_rfl) rfl (fun hHeld => ?_)
      refine takeL 0 (v := ?_) rfl (by kernel_rfl) (by kernel_rfl) (by kernel_rfl) (fun _ _ _ h => h) (by kernel_rfl) ?_ (by assumption) ?_; rotate_left; (focus (intro w hSw; (try dsimp only at hSw); go_simp <;> with_reducible rfl)); try simp only [Act.put, List.setIfInBounds_toArray, List.set_cons_zero, List.set_cons_succ]
      refine takeL 1 (v := ?_) rfl (by kernel_rfl) (by kernel_rfl) (by kernel_rfl) (fun _ _ _ h => h) (by kernel_rfl) ?_ (by assumption) ?_; rotate_left; (focus (intro w hSw; (try dsimp only at hSw); go_simp <;> with_reducible rfl)); try simp only [Act.put, List.setIfInBounds_toArray, List.set_cons_zero, List.set_cons_succ]
      refine takeL 2 (v := ?_) rfl (by kernel_rfl) (by kernel_rfl) (by kernel_rfl) (fun _ _ _ h => h) (by kernel_rfl) ?_ (by assumption) ?_; rotate_left; (focus (intro w hSw; (try dsimp only at hSw); go_simp <;> with_reducible rfl)); try simp only [Act.put, List.setIfInBounds_toArray, List.set_cons_zero, List.set_cons_succ]
      refine takeL 3 (v := ?_) rfl (by kernel_rfl) (by kernel_rfl) (by kernel_rfl) (fun _ _ _ h => h) (by kernel_rfl) ?_ (by assumption) ?_; rotate_left; (focus (intro w hSw; (try dsimp only at hSw); go_simp <;> with_reducible rfl)); try simp only [Act.put, List.setIfInBounds_toArray, List.set_cons_zero, List.set_cons_succ]
      refine takeL 4 (v := ?_) rfl (by kernel_rfl) (by kernel_rfl) (by kernel_rfl) (fun _ _ _ h => h) (by kernel_rfl) ?_ (by assumption) ?_; rotate_left; (focus (intro w hSw; (try dsimp only at hSw); go_simp <;> with_reducible rfl)); try simp only [Act.put, List.setIfInBounds_toArray, List.set_cons_zero, List.set_cons_succ]
      refine takeL 5 (v := ?_) rfl (by kernel_rfl) (by kernel_rfl) (by kernel_rfl) (fun _ _ _ h => h) (by kernel_rfl) ?_ (by assumption) ?_; rotate_left; (focus (intro w hSw; (try dsimp only at hSw); go_simp <;> with_reducible rfl)); try simp only [Act.put, List.setIfInBounds_toArray, List.set_cons_zero, List.set_cons_succ]
      refine takeL 6 (v := ?_) rfl (by kernel_rfl) (by kernel_rfl) (by kernel_rfl) (fun _ _ _ h => h) (by kernel_rfl) ?_ (by assumption) ?_; rotate_left; (focus (intro w hSw; (try dsimp only at hSw); go_simp <;> with_reducible rfl)); try simp only [Act.put, List.setIfInBounds_toArray, List.set_cons_zero, List.set_cons_succ]
      refine takeL 7 (v := ?_) rfl (by kernel_rfl) (by kernel_rfl) (by kernel_rfl) (fun _ _ _ h => h) (by kernel_rfl) ?_ (by assumption) ?_; rotate_left; (focus (intro w hSw; (try dsimp only at hSw); go_simp <;> with_reducible rfl)); try simp only [Act.put, List.setIfInBounds_toArray, List.set_cons_zero, List.set_cons_succ]
      refine takeL 8 (v := ?_) rfl (by kernel_rfl) (by kernel_rfl) (by kernel_rfl) (fun _ _ _ h => h) (by kernel_rfl) ?_ (by assumption) ?_; rotate_left; (focus (intro w hSw; (try dsimp only at hSw); go_simp <;> with_reducible rfl)); try simp only [Act.put, List.setIfInBounds_toArray, List.set_cons_zero, List.set_cons_succ]
      refine takeL 9 (v := ?_) rfl (by kernel_rfl) (by kernel_rfl) (by kernel_rfl) (fun _ _ _ h => h) (by kernel_rfl) ?_ (by assumption) ?_; rotate_left; (focus (intro w hSw; (try dsimp only at hSw); go_simp <;> with_reducible rfl)); try simp only [Act.put, List.setIfInBounds_toArray, List.set_cons_zero, List.set_cons_succ]
      refine takeL 10 (v := ?_) rfl (by kernel_rfl) (by kernel_rfl) (by kernel_rfl) (fun _ _ _ h => h) (by kernel_rfl) ?_ (by assumption) ?_; rotate_left; (focus (intro w hSw; (try dsimp only at hSw); go_simp <;> with_reducible rfl)); try simp only [Act.put, List.setIfInBounds_toArray, List.set_cons_zero, List.set_cons_succ]
      refine wpAnyH_done (by kernel_rfl) ?_ _
      go_wp2_with fail
      go_roundw
      case rel => exact ⟨k + 1, by omega, by go_num, e3.drew⟩
      case measure => simp [intOf]; omega
    · obtain rfl : k = ln := by omega
      go_wp2_with fail
      go_ret
      exact ⟨rfl, xr⟩
end Go.Proofs.YtpbbjmfhcgcldaaDoor
