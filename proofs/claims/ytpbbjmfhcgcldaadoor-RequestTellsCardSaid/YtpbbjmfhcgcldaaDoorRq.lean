/- request.Octets, request.numbers. -/
import Derived.Test.YtpbbjmfhcgcldaaDoorCnt
import Derived.Test.YtpbbjmfhcgcldaaDoorWrite
import Derived.Test.YtpbbjmfhcgcldaaDoorReg
import Derived.Deep.DeepCutAuto
namespace Go.Proofs.YtpbbjmfhcgcldaaDoor
open Go.RowKit
set_option linter.unusedVariables false
set_option linter.unusedSimpArgs false

structure Req where
  tenant : ByteArray
  user : ByteArray
  kind : Int
  path : ByteArray
  name : ByteArray
  other : ByteArray
  index : Int
  count : Int
  data : ByteArray
def Req.cells (r : Req) : List Value := [.string r.tenant, .string r.user, .int .i64 r.kind, .string r.path, .string r.name, .string r.other, .int .i64 r.index, .int .i64 r.count, .string r.data]
def Req.ints (r : Req) : List Int := [r.kind, r.index, r.count]
def Req.texts (r : Req) : List ByteArray := [r.tenant, r.user, num8 r.kind, r.path, r.name, r.other, num8 r.index, num8 r.count, r.data]
def I64 (z : Int) : Prop := -9223372036854775808 ≤ z ∧ z ≤ 9223372036854775807
structure Req.Ok (r : Req) : Prop where
  k : I64 r.kind
  i : I64 r.index
  c : I64 r.count
def octE (zs : List Int) (l : List ByteArray) : Int := if zs.any oddI then 4 else wE l
def octB (zs : List Int) (l : List ByteArray) : List UInt8 := if zs.any oddI then [] else wB l
/-- octets and an error -/
def OctR (E : Int) (B : List UInt8) (w : World) (e : Ending) (w' : World) : Prop := ∃ v, e = .returned (.tuple #[v, .int .i64 E]) ∧ w'.ownsRow w.heap.size 5 1 v B.length (bytes B) ∧ Ext w w'
theorem octR_no (w w' : World) (zs : List Int) (l : List ByteArray) (h : zs.any oddI = true) (e : Ext w w') : OctR (octE zs l) (octB zs l) w (.returned (.tuple #[.slice none 0 0, .int .i64 4])) w' := by
  unfold octE octB
  rw [if_pos h, if_pos h]
  exact ⟨_, rfl, World.ownsRow_nil _ _ _ _, e⟩
theorem octR_yes {w w1 w' : World} {zs : List Int} {l : List ByteArray} (h : zs.any oddI = false) {e : Ending} (k : WriteOk l w1 e w') (x : Ext w w1) : OctR (octE zs l) (octB zs l) w e w' := by
  obtain ⟨v, rfl, ho, hx⟩ := k
  unfold octE octB
  rw [if_neg (by rw [h]; decide), if_neg (by rw [h]; decide)]
  exact ⟨v, rfl, own_lower ho x.size, x.trans hx⟩
set_option maxRecDepth 100000 in
set_option maxHeartbeats 4000000 in
theorem octets_any (r : Req) (w : World) (hr : r.Ok) :
    Calls Tryd.prog 6 #[.agg r.cells.toArray] w (OctR (octE r.ints r.texts) (octB r.ints r.texts) w) := by
  obtain ⟨tn, us, ki, pa, na, ot, ix, cn, da⟩ := r
  have HR := Lib.hid hr
  have HCn := Lib.hid (fun w1 A lo hi (hr : Rd w1 lo hi A (ints [ki, ix, cn])) (hh : hi ≤ w1.heap.size) => count_any w1 A 3 3 lo hi [ki, ix, cn] rfl (by omega) hr hh)
  have HNm := Lib.hid (fun w1 A (hr : Rd w1 0 w1.heap.size A (ints [ki, ix, cn])) => numbers_any w1 A 3 3 [ki, ix, cn] rfl hr (by omega) (fun z hz => by
    simp only [List.mem_cons, List.not_mem_nil, or_false] at hz
    rcases hz with rfl | rfl | rfl
    · exact HR.out.k
    · exact HR.out.i
    · exact HR.out.c))
  clear hr
  have hv : cntE [ki, ix, cn] = if ([ki, ix, cn] : List Int).any oddI then 4 else 0 := rfl
  show Calls _ _ _ _ (OctR (octE [ki, ix, cn] [tn, us, num8 ki, pa, na, ot, num8 ix, num8 cn, da]) (octB [ki, ix, cn] [tn, us, num8 ki, pa, na, ot, num8 ix, num8 cn, da]) w)
  simp only [Req.cells]
  cases hodd : ([ki, ix, cn] : List Int).any oddI
  · rw [hodd] at hv
    simp only [Bool.false_eq_true, if_false] at hv
    rw [hv] at HCn
    have HO := Lib.hid hodd
    clear hodd hv
    go_enter Tryd.func6, Tryd.ntmps6
    go_upto_region 1 with fail
    generalize hw1 : World.alloc w _ = w1
    obtain ⟨e1, z1, G1⟩ := box_cells hw1
    have b0 := G1 0 _ rfl
    have b1 := G1 1 _ rfl
    have b2 := G1 2 _ rfl
    have b3 := G1 3 _ rfl
    have b4 := G1 4 _ rfl
    have b5 := G1 5 _ rfl
    have b6 := G1 6 _ rfl
    have b7 := G1 7 _ rfl
    have b8 := G1 8 _ rfl
    clear hw1 G1 z1
    have r1 := Ext.refl w1
    go_wp2_with fail
    refine (HCn.out _ _ _ _ (rd_new _ _ _) (by simp)).mono ?_
    rintro e w2 ⟨rfl, e2⟩
    have e3 : Ext w1 w2 := ((Ext.refl _).alloc _).trans e2
    go_wp2_with fail
    refine (HNm.out _ _ ((rd_new _ _ _).more (Nat.zero_le _) (by simp))).mono ?_
    rintro e w3 ⟨v, rfl, hown, e4⟩
    obtain ⟨A5, c5, rfl, _, _, _⟩ := own_form hown
    have e5 : Ext w1 w3 := e3.trans (((Ext.refl _).alloc _).trans e4)
    have hrd := Rd.of_own hown
    obtain ⟨nb, no, hA5, _, hnb, hnc⟩ := hrd (by simp [num8s])
    obtain rfl : A5 = some ⟨nb, no, none⟩ := hA5
    have n0 : ∀ w', Ext w3 w' → w'.cell? ⟨nb, no, none⟩ = some (.string (num8 ki)) := fun w' e => by rw [Below.cell (p := ⟨nb, no, none⟩) e hnb]; simpa using hnc 0 _ rfl
    have n1 : ∀ w', Ext w3 w' → w'.cell? ⟨nb, no + 1, none⟩ = some (.string (num8 ix)) := fun w' e => by rw [Below.cell (p := ⟨nb, no + 1, none⟩) e hnb]; exact hnc 1 _ rfl
    have n2 : ∀ w', Ext w3 w' → w'.cell? ⟨nb, no + 2, none⟩ = some (.string (num8 cn)) := fun w' e => by rw [Below.cell (p := ⟨nb, no + 2, none⟩) e hnb]; exact hnc 2 _ rfl
    clear hnc hrd hown hnb
    have d0 := fun w' (e : Ext w3 w') => b0 w' (e5.trans e)
    have d1 := fun w' (e : Ext w3 w') => b1 w' (e5.trans e)
    have d3 := fun w' (e : Ext w3 w') => b3 w' (e5.trans e)
    have d4 := fun w' (e : Ext w3 w') => b4 w' (e5.trans e)
    have d5 := fun w' (e : Ext w3 w') => b5 w' (e5.trans e)
    have d8 := fun w' (e : Ext w3 w') => b8 w' (e5.trans e)
    clear b0 b1 b2 b3 b4 b5 b6 b7 b8
    have r3 := Ext.refl w3
    have x3 : Ext w w3 := e1.trans e5
    clear e2 e3 e4 e5 e1 r1
    go_wp2_with fail
    refine wp_region_held_drew (S := fun w' => Ext w3 w') (by kernel_rfl) (by (repeat (first | exact Below.refl _ _ | exact Ext.refl _ | assumption | refine Below.drew ?_ | refine below_drewN ?_ _ | refine below_alloc ?_ (by first | exact Nat.le_refl _ | assumption | (simp; done) | omega | (simp; omega)) _ | refine below_ext ?_ (by assumption) (by first | exact Nat.le_refl _ | assumption | (simp; done) | omega | (simp; omega)) | refine Ext.drew ?_ | refine Ext.drewN ?_ _ | refine Ext.alloc ?_ _ | refine Ext.setCell ?_ (by first | assumption | (simp; done) | (simp; omega)) _ | refine Below.setCell ?_ (by first | assumption | (simp; done) | (simp; omega)) _ | refine Ext.trans ?_ (by assumption)))) (fun hHeld => ?_)
    refine takeL 0 (v := ?_) rfl (by kernel_rfl) (by kernel_rfl) (by kernel_rfl) (fun _ _ _ h => h) (by kernel_rfl) ?_ (by assumption) ?_; rotate_left; (focus (intro w hSw; (try dsimp only at hSw); go_simp <;> with_reducible rfl)); try simp only [Act.put, List.setIfInBounds_toArray, List.set_cons_zero, List.set_cons_succ]
    refine takeL 1 (v := ?_) rfl (by kernel_rfl) (by kernel_rfl) (by kernel_rfl) (fun _ _ _ h => h) (by kernel_rfl) ?_ (by assumption) ?_; rotate_left; (focus (intro w hSw; (try dsimp only at hSw); go_simp <;> with_reducible rfl)); try simp only [Act.put, List.setIfInBounds_toArray, List.set_cons_zero, List.set_cons_succ]
    refine takeL 2 (v := ?_) rfl (by kernel_rfl) (by kernel_rfl) (by kernel_rfl) (fun _ _ _ h => h) (by kernel_rfl) ?_ (by assumption) ?_; rotate_left; (focus (intro w hSw; (try dsimp only at hSw); go_simp <;> with_reducible rfl)); try simp only [Act.put, List.setIfInBounds_toArray, List.set_cons_zero, List.set_cons_succ]
    refine takeL 3 (v := ?_) rfl (by kernel_rfl) (by kernel_rfl) (by kernel_rfl) (fun _ _ _ h => h) (by kernel_rfl) ?_ (by assumption) ?_; rotate_left; (focus (intro w hSw; (try dsimp only at hSw); go_simp <;> with_reducible rfl)); try simp only [Act.put, List.setIfInBounds_toArray, List.set_cons_zero, List.set_cons_succ]
    refine takeL 4 (v := ?_) rfl (by kernel_rfl) (by kernel_rfl) (by kernel_rfl) (fun _ _ _ h => h) (by kernel_rfl) ?_ (by assumption) ?_; rotate_left; (focus (intro w hSw; (try dsimp only at hSw); go_simp <;> with_reducible rfl)); try simp only [Act.put, List.setIfInBounds_toArray, List.set_cons_zero, List.set_cons_succ]
    refine takeL 5 (v := ?_) rfl (by kernel_rfl) (by kernel_rfl) (by kernel_rfl) (fun _ _ _ h => h) (by kernel_rfl) ?_ (by assumption) ?_; rotate_left; (focus (intro w hSw; (try dsimp only at hSw); go_simp <;> with_reducible rfl)); try simp only [Act.put, List.setIfInBounds_toArray, List.set_cons_zero, List.set_cons_succ]
    refine takeL 6 (v := ?_) rfl (by kernel_rfl) (by kernel_rfl) (by kernel_rfl) (fun _ _ _ h => h) (by kernel_rfl) ?_ (by assumption) ?_; rotate_left; (focus (intro w hSw; (try dsimp only at hSw); go_simp <;> with_reducible rfl)); try simp only [Act.put, List.setIfInBounds_toArray, List.set_cons_zero, List.set_cons_succ]
    refine takeL 7 (v := ?_) rfl (by kernel_rfl) (by kernel_rfl) (by kernel_rfl) (fun _ _ _ h => h) (by kernel_rfl) ?_ (by assumption) ?_; rotate_left; (focus (intro w hSw; (try dsimp only at hSw); go_simp <;> with_reducible rfl)); try simp only [Act.put, List.setIfInBounds_toArray, List.set_cons_zero, List.set_cons_succ]
    refine takeL 8 (v := ?_) rfl (by kernel_rfl) (by kernel_rfl) (by kernel_rfl) (fun _ _ _ h => h) (by kernel_rfl) ?_ (by assumption) ?_; rotate_left; (focus (intro w hSw; (try dsimp only at hSw); go_simp <;> with_reducible rfl)); try simp only [Act.put, List.setIfInBounds_toArray, List.set_cons_zero, List.set_cons_succ]
    refine takeL 9 (v := ?_) rfl (by kernel_rfl) (by kernel_rfl) (by kernel_rfl) (fun _ _ _ h => h) (by kernel_rfl) ?_ (by assumption) ?_; rotate_left; (focus (intro w hSw; (try dsimp only at hSw); go_simp <;> with_reducible rfl)); try simp only [Act.put, List.setIfInBounds_toArray, List.set_cons_zero, List.set_cons_succ]
    refine takeL 10 (v := ?_) rfl (by kernel_rfl) (by kernel_rfl) (by kernel_rfl) (fun _ _ _ h => h) (by kernel_rfl) ?_ (by assumption) ?_; rotate_left; (focus (intro w hSw; (try dsimp only at hSw); go_simp <;> with_reducible rfl)); try simp only [Act.put, List.setIfInBounds_toArray, List.set_cons_zero, List.set_cons_succ]
    refine takeL 11 (v := ?_) rfl (by kernel_rfl) (by kernel_rfl) (by kernel_rfl) (fun _ _ _ h => h) (by kernel_rfl) ?_ (by assumption) ?_; rotate_left; (focus (intro w hSw; (try dsimp only at hSw); go_simp <;> with_reducible rfl)); try simp only [Act.put, List.setIfInBounds_toArray, List.set_cons_zero, List.set_cons_succ]
    refine takeL 12 (v := ?_) rfl (by kernel_rfl) (by kernel_rfl) (by kernel_rfl) (fun _ _ _ h => h) (by kernel_rfl) ?_ (by assumption) ?_; rotate_left; (focus (intro w hSw; (try dsimp only at hSw); go_simp <;> with_reducible rfl)); try simp only [Act.put, List.setIfInBounds_toArray, List.set_cons_zero, List.set_cons_succ]
    refine takeL 13 (v := ?_) rfl (by kernel_rfl) (by kernel_rfl) (by kernel_rfl) (fun _ _ _ h => h) (by kernel_rfl) ?_ (by assumption) ?_; rotate_left; (focus (intro w hSw; (try dsimp only at hSw); go_simp <;> with_reducible rfl)); try simp only [Act.put, List.setIfInBounds_toArray, List.set_cons_zero, List.set_cons_succ]
    refine takeL 14 (v := ?_) rfl (by kernel_rfl) (by kernel_rfl) (by kernel_rfl) (fun _ _ _ h => h) (by kernel_rfl) ?_ (by assumption) ?_; rotate_left; (focus (intro w hSw; (try dsimp only at hSw); go_simp <;> with_reducible rfl)); try simp only [Act.put, List.setIfInBounds_toArray, List.set_cons_zero, List.set_cons_succ]
    refine takeL 15 (v := ?_) rfl (by kernel_rfl) (by kernel_rfl) (by kernel_rfl) (fun _ _ _ h => h) (by kernel_rfl) ?_ (by assumption) ?_; rotate_left; (focus (intro w hSw; (try dsimp only at hSw); go_simp <;> with_reducible rfl)); try simp only [Act.put, List.setIfInBounds_toArray, List.set_cons_zero, List.set_cons_succ]
    refine takeL 16 (v := ?_) rfl (by kernel_rfl) (by kernel_rfl) (by kernel_rfl) (fun _ _ _ h => h) (by kernel_rfl) ?_ (by assumption) ?_; rotate_left; (focus (intro w hSw; (try dsimp only at hSw); go_simp <;> with_reducible rfl)); try simp only [Act.put, List.setIfInBounds_toArray, List.set_cons_zero, List.set_cons_succ]
    refine takeL 17 (v := ?_) rfl (by kernel_rfl) (by kernel_rfl) (by kernel_rfl) (fun _ _ _ h => h) (by kernel_rfl) ?_ (by assumption) ?_; rotate_left; (focus (intro w hSw; (try dsimp only at hSw); go_simp <;> with_reducible rfl)); try simp only [Act.put, List.setIfInBounds_toArray, List.set_cons_zero, List.set_cons_succ]
    refine takeL 18 (v := ?_) rfl (by kernel_rfl) (by kernel_rfl) (by kernel_rfl) (fun _ _ _ h => h) (by kernel_rfl) ?_ (by assumption) ?_; rotate_left; (focus (intro w hSw; (try dsimp only at hSw); go_simp <;> with_reducible rfl)); try simp only [Act.put, List.setIfInBounds_toArray, List.set_cons_zero, List.set_cons_succ]
    refine takeL 19 (v := ?_) rfl (by kernel_rfl) (by kernel_rfl) (by kernel_rfl) (fun _ _ _ h => h) (by kernel_rfl) ?_ (by assumption) ?_; rotate_left; (focus (intro w hSw; (try dsimp only at hSw); go_simp <;> with_reducible rfl)); try simp only [Act.put, List.setIfInBounds_toArray, List.set_cons_zero, List.set_cons_succ]
    refine takeL 20 (v := ?_) rfl (by kernel_rfl) (by kernel_rfl) (by kernel_rfl) (fun _ _ _ h => h) (by kernel_rfl) ?_ (by assumption) ?_; rotate_left; (focus (intro w hSw; (try dsimp only at hSw); go_simp <;> with_reducible rfl)); try simp only [Act.put, List.setIfInBounds_toArray, List.set_cons_zero, List.set_cons_succ]
    refine oneL 21 rfl (by kernel_rfl) (by kernel_rfl) (fun K hK => ?_); go_simp
    generalize hw4 : World.drew (World.alloc _ _) = w4
    have HNw : Hid (Rd w4 0 w4.heap.size (some ⟨w3.heap.size, 0, none⟩) (([tn, us, num8 ki, pa, na, ot, num8 ix, num8 cn, da] : List ByteArray).map Value.string)) := by
      subst hw4
      have := (rd_new w3 #[.string tn, .string us, .string (num8 ki), .string pa, .string na, .string ot, .string (num8 ix), .string (num8 cn), .string da] 9).drew
      rw [Hid]
      simpa using this.more (Nat.zero_le _) (Nat.le_refl _)
    have e6 : Ext w3 w4 := by rw [← hw4]; exact ((Ext.refl _).alloc _).drew
    clear hw4
    refine hK.out _ _ e6 (fun hHeld => ?_)
    clear hK K
    try simp only [Act.put, List.setIfInBounds_toArray, List.set_cons_zero, List.set_cons_succ]
    refine oneL 22 rfl (by kernel_rfl) (by kernel_rfl) (fun K hK => ?_); go_simp
    refine (write_any w4 _ 9 9 _ rfl (by omega) HNw.out).mono ?_
    intro e w5 hW
    have HW := Lib.hid hW
    obtain ⟨v, rfl, ho, hx⟩ := hW
    have e7 : Ext w3 w5 := e6.trans hx
    clear ho
    go_wp2_with fail
    refine hK.out _ _ e7 (fun hHeld => ?_)
    clear hK K
    try simp only [Act.put, List.setIfInBounds_toArray, List.set_cons_zero, List.set_cons_succ]
    refine takeL 23 (v := ?_) rfl (by kernel_rfl) (by kernel_rfl) (by kernel_rfl) (fun _ _ _ h => h) (by kernel_rfl) ?_ (by assumption) ?_; rotate_left; (focus (intro w hSw; (try dsimp only at hSw); go_simp <;> with_reducible rfl)); try simp only [Act.put, List.setIfInBounds_toArray, List.set_cons_zero, List.set_cons_succ]
    refine takeL 24 (v := ?_) rfl (by kernel_rfl) (by kernel_rfl) (by kernel_rfl) (fun _ _ _ h => h) (by kernel_rfl) ?_ (by assumption) ?_; rotate_left; (focus (intro w hSw; (try dsimp only at hSw); go_simp <;> with_reducible rfl)); try simp only [Act.put, List.setIfInBounds_toArray, List.set_cons_zero, List.set_cons_succ]
    refine takeL 25 (v := ?_) rfl (by kernel_rfl) (by kernel_rfl) (by kernel_rfl) (fun _ _ _ h => h) (by kernel_rfl) ?_ (by assumption) ?_; rotate_left; (focus (intro w hSw; (try dsimp only at hSw); go_simp <;> with_reducible rfl)); try simp only [Act.put, List.setIfInBounds_toArray, List.set_cons_zero, List.set_cons_succ]
    refine takeL 26 (v := ?_) rfl (by kernel_rfl) (by kernel_rfl) (by kernel_rfl) (fun _ _ _ h => h) (by kernel_rfl) ?_ (by assumption) ?_; rotate_left; (focus (intro w hSw; (try dsimp only at hSw); go_simp <;> with_reducible rfl)); try simp only [Act.put, List.setIfInBounds_toArray, List.set_cons_zero, List.set_cons_succ]
    refine wpAnyH_done (by kernel_rfl) ?_ _
    go_wp2_with fail
    go_ret2
    exact octR_yes HO.out HW.out (x3.trans e6)
  · rw [hodd] at hv
    simp only [if_true] at hv
    rw [hv] at HCn
    have HO := Lib.hid hodd
    clear hodd hv
    go_enter Tryd.func6, Tryd.ntmps6
    go_upto_region 1 with fail
    generalize hw1 : World.alloc w _ = w1
    obtain ⟨e1, z1, G1⟩ := box_cells hw1
    have b0 := G1 0 _ rfl
    have b1 := G1 1 _ rfl
    have b2 := G1 2 _ rfl
    have b3 := G1 3 _ rfl
    have b4 := G1 4 _ rfl
    have b5 := G1 5 _ rfl
    have b6 := G1 6 _ rfl
    have b7 := G1 7 _ rfl
    have b8 := G1 8 _ rfl
    clear hw1 G1 z1
    have r1 := Ext.refl w1
    go_wp2_with fail
    refine (HCn.out _ _ _ _ (rd_new _ _ _) (by simp)).mono ?_
    rintro e w2 ⟨rfl, e2⟩
    go_wp2_with fail
    go_ret2
    exact octR_no _ _ _ _ HO.out (e1.trans (((Ext.refl _).alloc _).trans e2))
/-- an amount's text -/
def amtS (s : ByteArray) : Bool := (fE s == 0) && decide (fV s ≤ 1099511627776)
def NumsR (l : List ByteArray) (w : World) (e : Ending) (w' : World) : Prop :=
  ∃ v, e = .returned (.tuple #[v, .bool (l.all amtS)]) ∧ (l.all amtS = true → w'.ownsRow w.heap.size 3 1 v l.length (ints (l.map fV))) ∧ Ext w w'
theorem infoInt : (Tryd.prog.info? 3).map (fun i => (i.zero, i.size, i.bytes)) = some (some (.int .i64 0), 1, 8) := by kernel_rfl
theorem fE_08 (s : ByteArray) : fE s = 0 ∨ fE s ≠ 0 := by omega
theorem fV_i64 (s : ByteArray) : 0 ≤ fV s ∧ fV s ≤ 4611686018427387903 := by
  unfold fV numV
  split
  · omega
  · split
    · omega
    · split
      · omega
      · split
        · omega
        · split
          · omega
          · omega
set_option maxRecDepth 100000 in
set_option maxHeartbeats 4000000 in
theorem nums_any (w : World) (A : Option Addr) (n c : Nat) (l : List ByteArray) (hn : n = l.length) (hm : n ≤ 100) (hr : Rd w 0 w.heap.size A (l.map Value.string)) (hs : ∀ s ∈ l, s.size ≤ 9223372036854775807) :
    Calls Tryd.prog 27 #[.slice A n c] w (NumsR l w) := by
  obtain ⟨i0, hi0, hz0, hz1, hz2⟩ := info_parts infoInt
  have Hn := Lib.hid hn
  have HS := Lib.hid hs
  clear hn hs
  go_enter Tryd.func27, Tryd.ntmps27
  go_wp2_with fail
  go_loopw [4, 11] (fun v i wr => ∃ k : Nat, k ≤ n ∧ i = .int .i64 k ∧ Hid ((l.take k).all amtS = true) ∧ Hid (wr.ownsRow w.heap.size 3 1 v k (ints ((l.take k).map fV))) ∧ Ext w wr) (fun _ i _ => n - (intOf i).toNat)
  case atStart => exact ⟨0, Nat.zero_le _, rfl, Lib.hid rfl, Lib.hid (World.ownsRow_nil _ _ _ _), Ext.refl _⟩
  case round =>
    obtain ⟨k, hk, rfl, HA, HO, e1⟩ := hrel
    by_cases hlt : k < n
    · have hl : k < l.length := by rw [← Hn.out]; exact hlt
      obtain ⟨b1, o1, rfl, _, _, f0⟩ := rd_str (hr.ext e1 (Nat.le_refl _)) (k := k) hl
      have htk := Lib.hid (show (l.take (k + 1)).all amtS = ((l.take k).all amtS && amtS l[k]) by rw [List.take_succ_eq_append_getElem hl, List.all_append]; simp)
      have htv := Lib.hid (show ints ((l.take (k + 1)).map fV) = ints ((l.take k).map fV) ++ [.int .i64 (fV l[k])] by rw [List.take_succ_eq_append_getElem hl, List.map_append, ints, List.map_append]; rfl)
      have hall : Hid (amtS l[k] = false → l.all amtS = false) := Lib.hid (fun h => by
        rw [Bool.eq_false_iff]
        intro h2
        have := List.all_eq_true.1 h2 _ (List.getElem_mem hl)
        rw [h] at this
        cases this)
      have HF := Lib.hid (fun w1 => fnumber_any l[k] w1 (HS.out _ (List.getElem_mem hl)))
      have hb := fV_i64 l[k]
      have ham : Hid (amtS l[k] = ((fE l[k] == 0) && decide (fV l[k] ≤ 1099511627776))) := Lib.hid rfl
      generalize amtS l[k] = am at *
      generalize fE l[k] = fe at *
      generalize fV l[k] = fv at *
      generalize l[k] = y at *
      obtain ⟨hb0, hb1⟩ := hb
      have p0 : (0 : Int) ≤ k := by omega
      have p1 : (k : Int) < n := by omega
      by_cases h1 : fe = 0
      · subst h1
        by_cases h2 : fv ≤ 1099511627776
        · have AM := Lib.hid (show am = true by rw [ham.out]; simp [h2])
          go_wp2_with fail
          refine (HF.out _).mono ?_
          rintro e w2 ⟨rfl, e2⟩
          have own2 := own_ext HO.out e2
          have e4 : Ext w w2 := e1.trans e2
          have zz := e4.size
          go_wp2_with
            (at_builtin
             refine list_app _ rfl (.tmp 26) (.tmp 28) _ rfl 3 i0 _ 1 8 Tryd.underlying36 hi0 hz0 hz1 hz2 rfl (by omega) w.heap.size _ k _ rfl (own2.alloc _) 0 _ _ 1 1 [.int .i64 fv] rfl rfl
               ((rd_new _ _ _).more (Nat.zero_le _) (Nat.le_refl _)) (by simp [Value.oneCell']) (by simp only [maxLen]; omega) (by omega) (by simp; omega) ?_
             intro v3 w3 hown3 he3 _ _
             have e5 : Ext w w3 := he3 _ (e4.alloc _) (Nat.le_refl _)
             have HO3 := Lib.hid hown3
             clear he3 own2 hown3)
          go_roundw
          case rel => exact ⟨k + 1, by omega, by go_num, Lib.hid (by rw [htk.out, HA.out, AM.out]; rfl), Lib.hid (by rw [htv.out]; exact HO3.out), e5⟩
          case measure => simp [intOf]; omega
        · have AM := Lib.hid (hall.out (by rw [ham.out]; simp [h2]))
          have h3 : 1099511627776 < fv := by omega
          clear h2
          go_wp2_with fail
          refine (HF.out _).mono ?_
          rintro e w2 ⟨rfl, e2⟩
          go_wp2_with fail
          go_ret2
          exact ⟨_, by rw [AM.out]; rfl, fun h => (by rw [AM.out] at h; cases h), e1.trans e2⟩
      · have hne : (fe != 0) = true := by simp [bne, h1]
        have AM := Lib.hid (hall.out (by rw [ham.out]; simp [h1]))
        clear h1
        go_wp2_with fail
        refine (HF.out _).mono ?_
        rintro e w2 ⟨rfl, e2⟩
        go_wp2_with fail
        go_ret2
        exact ⟨_, by rw [AM.out]; rfl, fun h => (by rw [AM.out] at h; cases h), e1.trans e2⟩
    · obtain rfl : k = n := by omega
      have h1 := HA.out
      have h2 := HO.out
      rw [List.take_of_length_le (by rw [← Hn.out]; exact Nat.le_refl _)] at h1 h2
      have H1 := Lib.hid h1
      have H2 := Lib.hid h2
      clear h1 h2
      go_wp2_with fail
      go_ret2
      exact ⟨_, by rw [H1.out]; rfl, fun _ => by rw [← Hn.out]; exact H2.out, e1⟩
end Go.Proofs.YtpbbjmfhcgcldaaDoor
