/- The texts Sns, Ssn in one file. -/
import Derived.Test.YtmecjjmlccdppaaGreatDoorM31
import Derived.Test.YtmecjjmlccdppaaGreatDoorM14
import Derived.Test.YtmecjjmlccdppaaGreatDoorM17
import Derived.Test.YtmecjjmlccdppaaGreatDoorM25
/- SameSnap (the reference, chapter 14): the walk. -/
namespace Go.Proofs.YtmecjjmlccdppaaGreatDoor
open Go.RowKit
set_option linter.unusedVariables false
set_option linter.unusedSimpArgs false

def sameSn (x y : Snp) : Bool := x.name.toList == y.name.toList && (x.guid == y.guid && (decide (x.tags = y.tags) && (decide (x.body = y.body) && decide (x.own = y.own))))
theorem sameSn_bare (x y : Snp) (h : x.bare = y.bare) : sameSn x y = true := by
  obtain ⟨a1, a2, a3, a4, a5, a6, a7, a8, a9, a10, a11, a12, a13, a14⟩ := x
  obtain ⟨b1, b2, b3, b4, b5, b6, b7, b8, b9, b10, b11, b12, b13, b14⟩ := y
  simp only [Snp.bare, Snp.mk.injEq] at h
  obtain ⟨rfl, rfl, -, -, -, rfl, -, -, -, rfl, -, -, -, rfl⟩ := h
  simp [sameSn]
theorem bx5 {w : World} {b : Nat} {v0 v1 v2 v3 v4 : Value} (h : Bx w b [v0, v1, v2, v3, v4]) : ∀ w1, Ext w w1 → w1.cell? ⟨b, 0, none⟩ = some v0 ∧ w1.cell? ⟨b, 1, none⟩ = some v1 ∧ w1.cell? ⟨b, 2, none⟩ = some v2 ∧ w1.cell? ⟨b, 3, none⟩ = some v3 ∧ w1.cell? ⟨b, 4, none⟩ = some v4 :=
  fun w1 e => ⟨(h.ext e).cell 0 _ rfl, (h.ext e).cell 1 _ rfl, (h.ext e).cell 2 _ rfl, (h.ext e).cell 3 _ rfl, (h.ext e).cell 4 _ rfl⟩
theorem rd_strs {w : World} {lo hi : Nat} {A : Option Addr} {l : List ByteArray} (h : Rd w lo hi A (l.map Value.string)) {k : Nat} (hk : k < l.length) :
    ∃ b o, A = some ⟨b, o, none⟩ ∧ w.cell? ⟨b, o + k, none⟩ = some (.string l[k]) := by
  obtain ⟨b, o, h1, h2, h3, h4⟩ := h (fun e => by have := congrArg List.length e; simp at this; subst this; simp at hk)
  exact ⟨b, o, h1, h4 k _ (by simp [hk])⟩
set_option maxRecDepth 100000 in
set_option maxHeartbeats 8000000 in
theorem samesnap_any (w : World) (x y : Snp) (hx : x.rd w) (hy : y.rd w) :
    Calls Tryz.prog 19 #[.agg x.cells.toArray, .agg y.cells.toArray] w fun e w' => e = .returned (.bool (sameSn x y)) ∧ Ext w w' := by
  have HB := Lib.hid (fun W (hW : Ext w W) => rsame_any W x.bA y.bA x.bn y.bn x.bc y.bc x.body y.body hx.bodyN hy.bodyN (by have := hx.bodyM; omega) (by have := hy.bodyM; omega) (Rd.at hx.bodyR hW (Nat.le_refl _)) (Rd.at hy.bodyR hW (Nat.le_refl _)))
  have HP := Lib.hid (fun W (hW : Ext w W) => rpsame_any W x.oA y.oA x.on y.on x.oc y.oc x.own y.own hx.ownN hy.ownN (by have := hx.ownM; omega) (by have := hy.ownM; omega) (Rd.at hx.ownR hW (Nat.le_refl _)) (Rd.at hy.ownR hW (Nat.le_refl _)))
  have HS := Lib.hid (show sameSn x y = (x.name.toList == y.name.toList && (x.guid == y.guid && (decide (x.tags = y.tags) && (decide (x.body = y.body) && decide (x.own = y.own))))) from rfl)
  have HTx := Lib.hid hx.tR
  have HTy := Lib.hid hy.tR
  have HNx := Lib.hid hx.tN
  have HNy := Lib.hid hy.tN
  have HMx := Lib.hid hx.tM
  clear hx hy
  generalize sameSn x y = V at *
  generalize decide (x.body = y.body) = DB at *
  generalize decide (x.own = y.own) = DO at *
  obtain ⟨xn, xg, xbA, xbn, xbc, xb, xtA, xtn, xtc, xt, xoA, xon, xoc, xo⟩ := x
  obtain ⟨yn, yg, ybA, ybn, ybc, yb, ytA, ytn, ytc, yt, yoA, yon, yoc, yo⟩ := y
  dsimp only at HB HP HS HTx HTy HNx HNy HMx
  simp only [Snp.cells]
  cases h0 : (xn.toList == yn.toList) with
  | false => go_enter Tryz.func19, Tryz.ntmps19; go_upto_region 1 with fail; generalize hwH : World.alloc (World.alloc w _) _ = w1; have HH := Lib.hid (Heap.two hwH); clear hwH; obtain ⟨g0, g1, g2, g3, g4⟩ := bx5 (HH.out.boxAt 1 rfl) w1 (Ext.refl _); obtain ⟨k0, k1, k2, k3, k4⟩ := bx5 (HH.out.boxAt 0 rfl) w1 (Ext.refl _); go_wp2_with (first | (go_at_call 22; (with_reducible refine (HB.out w1 HH.out.ext).mono ?_); rintro e wa ⟨rfl, ea⟩; have HHn := Lib.hid (HH.out.later ea); clear HH ea g0 g1 g2 g3 g4 k0 k1 k2 k3 k4; have HH := HHn; clear HHn; obtain ⟨g0, g1, g2, g3, g4⟩ := bx5 (HH.out.boxAt 1 rfl) _ (Ext.refl _); obtain ⟨k0, k1, k2, k3, k4⟩ := bx5 (HH.out.boxAt 0 rfl) _ (Ext.refl _)) | (go_at_call 24; (with_reducible refine (HP.out _ HH.out.ext).mono ?_); rintro e wb ⟨rfl, eb⟩; have HHn := Lib.hid (HH.out.later eb); clear HH eb g0 g1 g2 g3 g4 k0 k1 k2 k3 k4; have HH := HHn; clear HHn; obtain ⟨g0, g1, g2, g3, g4⟩ := bx5 (HH.out.boxAt 1 rfl) _ (Ext.refl _); obtain ⟨k0, k1, k2, k3, k4⟩ := bx5 (HH.out.boxAt 0 rfl) _ (Ext.refl _))); go_ret; exact ⟨retB (by rw [HS.out]; simp [*]), HH.out.ext⟩
  | true =>
    cases h1 : (xg == yg) with
    | false =>
      have h1' : (xg != yg) = true := by simp only [bne, h1]; rfl
      go_enter Tryz.func19, Tryz.ntmps19; go_upto_region 1 with fail; generalize hwH : World.alloc (World.alloc w _) _ = w1; have HH := Lib.hid (Heap.two hwH); clear hwH; obtain ⟨g0, g1, g2, g3, g4⟩ := bx5 (HH.out.boxAt 1 rfl) w1 (Ext.refl _); obtain ⟨k0, k1, k2, k3, k4⟩ := bx5 (HH.out.boxAt 0 rfl) w1 (Ext.refl _); go_wp2_with (first | (go_at_call 22; (with_reducible refine (HB.out w1 HH.out.ext).mono ?_); rintro e wa ⟨rfl, ea⟩; have HHn := Lib.hid (HH.out.later ea); clear HH ea g0 g1 g2 g3 g4 k0 k1 k2 k3 k4; have HH := HHn; clear HHn; obtain ⟨g0, g1, g2, g3, g4⟩ := bx5 (HH.out.boxAt 1 rfl) _ (Ext.refl _); obtain ⟨k0, k1, k2, k3, k4⟩ := bx5 (HH.out.boxAt 0 rfl) _ (Ext.refl _)) | (go_at_call 24; (with_reducible refine (HP.out _ HH.out.ext).mono ?_); rintro e wb ⟨rfl, eb⟩; have HHn := Lib.hid (HH.out.later eb); clear HH eb g0 g1 g2 g3 g4 k0 k1 k2 k3 k4; have HH := HHn; clear HHn; obtain ⟨g0, g1, g2, g3, g4⟩ := bx5 (HH.out.boxAt 1 rfl) _ (Ext.refl _); obtain ⟨k0, k1, k2, k3, k4⟩ := bx5 (HH.out.boxAt 0 rfl) _ (Ext.refl _))); go_ret; exact ⟨retB (by rw [HS.out]; simp [*]), HH.out.ext⟩
    | true =>
      have h1' : (xg != yg) = false := by simp only [bne, h1]; rfl
      cases h2 : ((xtn : Int) != (ytn : Int)) with
      | true =>
        have hne : ¬ xt = yt := fun e => by
          rw [e, ← HNy.out] at HNx
          have := HNx.out
          simp [this] at h2
        have HD := Lib.hid (decide_eq_false hne)
        clear hne
        go_enter Tryz.func19, Tryz.ntmps19
        go_upto_region 1 with fail; generalize hwH : World.alloc (World.alloc w _) _ = w1; have HH := Lib.hid (Heap.two hwH); clear hwH; obtain ⟨g0, g1, g2, g3, g4⟩ := bx5 (HH.out.boxAt 1 rfl) w1 (Ext.refl _); obtain ⟨k0, k1, k2, k3, k4⟩ := bx5 (HH.out.boxAt 0 rfl) w1 (Ext.refl _)
        go_wp2_with (first | (go_at_call 22; (with_reducible refine (HB.out w1 HH.out.ext).mono ?_); rintro e wa ⟨rfl, ea⟩; have HHn := Lib.hid (HH.out.later ea); clear HH ea g0 g1 g2 g3 g4 k0 k1 k2 k3 k4; have HH := HHn; clear HHn; obtain ⟨g0, g1, g2, g3, g4⟩ := bx5 (HH.out.boxAt 1 rfl) _ (Ext.refl _); obtain ⟨k0, k1, k2, k3, k4⟩ := bx5 (HH.out.boxAt 0 rfl) _ (Ext.refl _)) | (go_at_call 24; (with_reducible refine (HP.out _ HH.out.ext).mono ?_); rintro e wb ⟨rfl, eb⟩; have HHn := Lib.hid (HH.out.later eb); clear HH eb g0 g1 g2 g3 g4 k0 k1 k2 k3 k4; have HH := HHn; clear HHn; obtain ⟨g0, g1, g2, g3, g4⟩ := bx5 (HH.out.boxAt 1 rfl) _ (Ext.refl _); obtain ⟨k0, k1, k2, k3, k4⟩ := bx5 (HH.out.boxAt 0 rfl) _ (Ext.refl _)))
        go_ret
        exact ⟨retB (by rw [HS.out, HD.out]; simp), HH.out.ext⟩
      | false =>
        cases DB with
        | false => go_enter Tryz.func19, Tryz.ntmps19; go_upto_region 1 with fail; generalize hwH : World.alloc (World.alloc w _) _ = w1; have HH := Lib.hid (Heap.two hwH); clear hwH; obtain ⟨g0, g1, g2, g3, g4⟩ := bx5 (HH.out.boxAt 1 rfl) w1 (Ext.refl _); obtain ⟨k0, k1, k2, k3, k4⟩ := bx5 (HH.out.boxAt 0 rfl) w1 (Ext.refl _); go_wp2_with (first | (go_at_call 22; (with_reducible refine (HB.out w1 HH.out.ext).mono ?_); rintro e wa ⟨rfl, ea⟩; have HHn := Lib.hid (HH.out.later ea); clear HH ea g0 g1 g2 g3 g4 k0 k1 k2 k3 k4; have HH := HHn; clear HHn; obtain ⟨g0, g1, g2, g3, g4⟩ := bx5 (HH.out.boxAt 1 rfl) _ (Ext.refl _); obtain ⟨k0, k1, k2, k3, k4⟩ := bx5 (HH.out.boxAt 0 rfl) _ (Ext.refl _)) | (go_at_call 24; (with_reducible refine (HP.out _ HH.out.ext).mono ?_); rintro e wb ⟨rfl, eb⟩; have HHn := Lib.hid (HH.out.later eb); clear HH eb g0 g1 g2 g3 g4 k0 k1 k2 k3 k4; have HH := HHn; clear HHn; obtain ⟨g0, g1, g2, g3, g4⟩ := bx5 (HH.out.boxAt 1 rfl) _ (Ext.refl _); obtain ⟨k0, k1, k2, k3, k4⟩ := bx5 (HH.out.boxAt 0 rfl) _ (Ext.refl _))); go_ret; exact ⟨retB (by rw [HS.out]; simp [*]), HH.out.ext⟩
        | true =>
          cases DO with
          | false => go_enter Tryz.func19, Tryz.ntmps19; go_upto_region 1 with fail; generalize hwH : World.alloc (World.alloc w _) _ = w1; have HH := Lib.hid (Heap.two hwH); clear hwH; obtain ⟨g0, g1, g2, g3, g4⟩ := bx5 (HH.out.boxAt 1 rfl) w1 (Ext.refl _); obtain ⟨k0, k1, k2, k3, k4⟩ := bx5 (HH.out.boxAt 0 rfl) w1 (Ext.refl _); go_wp2_with (first | (go_at_call 22; (with_reducible refine (HB.out w1 HH.out.ext).mono ?_); rintro e wa ⟨rfl, ea⟩; have HHn := Lib.hid (HH.out.later ea); clear HH ea g0 g1 g2 g3 g4 k0 k1 k2 k3 k4; have HH := HHn; clear HHn; obtain ⟨g0, g1, g2, g3, g4⟩ := bx5 (HH.out.boxAt 1 rfl) _ (Ext.refl _); obtain ⟨k0, k1, k2, k3, k4⟩ := bx5 (HH.out.boxAt 0 rfl) _ (Ext.refl _)) | (go_at_call 24; (with_reducible refine (HP.out _ HH.out.ext).mono ?_); rintro e wb ⟨rfl, eb⟩; have HHn := Lib.hid (HH.out.later eb); clear HH eb g0 g1 g2 g3 g4 k0 k1 k2 k3 k4; have HH := HHn; clear HHn; obtain ⟨g0, g1, g2, g3, g4⟩ := bx5 (HH.out.boxAt 1 rfl) _ (Ext.refl _); obtain ⟨k0, k1, k2, k3, k4⟩ := bx5 (HH.out.boxAt 0 rfl) _ (Ext.refl _))); go_ret; exact ⟨retB (by rw [HS.out]; simp [*]), HH.out.ext⟩
          | true =>
            go_enter Tryz.func19, Tryz.ntmps19
            go_upto_region 1 with fail; generalize hwH : World.alloc (World.alloc w _) _ = w1; have HH := Lib.hid (Heap.two hwH); clear hwH; obtain ⟨g0, g1, g2, g3, g4⟩ := bx5 (HH.out.boxAt 1 rfl) w1 (Ext.refl _); obtain ⟨k0, k1, k2, k3, k4⟩ := bx5 (HH.out.boxAt 0 rfl) w1 (Ext.refl _)
            go_upto_region 4 with (first | (go_at_call 22; (with_reducible refine (HB.out w1 HH.out.ext).mono ?_); rintro e wa ⟨rfl, ea⟩; have HHn := Lib.hid (HH.out.later ea); clear HH ea g0 g1 g2 g3 g4 k0 k1 k2 k3 k4; have HH := HHn; clear HHn; obtain ⟨g0, g1, g2, g3, g4⟩ := bx5 (HH.out.boxAt 1 rfl) _ (Ext.refl _); obtain ⟨k0, k1, k2, k3, k4⟩ := bx5 (HH.out.boxAt 0 rfl) _ (Ext.refl _)) | (go_at_call 24; (with_reducible refine (HP.out _ HH.out.ext).mono ?_); rintro e wb ⟨rfl, eb⟩; have HHn := Lib.hid (HH.out.later eb); clear HH eb g0 g1 g2 g3 g4 k0 k1 k2 k3 k4; have HH := HHn; clear HHn; obtain ⟨g0, g1, g2, g3, g4⟩ := bx5 (HH.out.boxAt 1 rfl) _ (Ext.refl _); obtain ⟨k0, k1, k2, k3, k4⟩ := bx5 (HH.out.boxAt 0 rfl) _ (Ext.refl _)))
            have HH0 := Lib.hid h0
            have HH1 := Lib.hid h1
            have hnn : xtn = ytn := by
              by_cases h : xtn = ytn
              · exact h
              · exfalso
                have : ((xtn : Int) != (ytn : Int)) = true := by simp; omega
                rw [this] at h2
                cases h2
            subst hnn
            have HLx := Lib.hid (fun (W : World) (hW : Ext wb W) (k : Nat) (hk : k < xt.length) => rd_strs (Rd.at HTx.out (HH.out.ext.trans hW) (Nat.le_refl _)) hk)
            have HLy := Lib.hid (fun (W : World) (hW : Ext wb W) (k : Nat) (hk : k < yt.length) => rd_strs (Rd.at HTy.out (HH.out.ext.trans hW) (Nat.le_refl _)) hk)
            have HCx := Lib.hid (bx5 (HH.out.boxAt 1 rfl))
            have HCy := Lib.hid (bx5 (HH.out.boxAt 0 rfl))
            have HE := Lib.hid HH.out.ext
            have hMx := HMx.out
            clear HH g0 g1 g2 g3 g4 k0 k1 k2 k3 k4 HB HP h0 h1 h1' h2 HTx HTy HMx
            go_loopw [5] (fun i wr => ∃ k : Nat, k ≤ xtn ∧ i = .int .i64 k ∧ Hid (xt.take k = yt.take k) ∧ Ext wb wr) (fun i _ => xtn - (intOf i).toNat)
            case atStart => exact ⟨0, Nat.zero_le _, rfl, Lib.hid rfl, Ext.refl _⟩
            case round =>
              obtain ⟨k, hk, rfl, HK, e1⟩ := hrel
              obtain ⟨_, _, _, g3, _⟩ := HCx.out _ e1
              obtain ⟨_, _, _, k3, _⟩ := HCy.out _ e1
              by_cases hlt : k < xtn
              · have l1 : k < xt.length := by rw [← HNx.out]; exact hlt
                have l2 : k < yt.length := by rw [← HNy.out]; exact hlt
                obtain ⟨b1, o1, rfl, f1⟩ := HLx.out _ e1 k l1
                obtain ⟨b2, o2, rfl, f2⟩ := HLy.out _ e1 k l2
                have HT := Lib.hid (fun (h : xt[k] = yt[k]) => show xt.take (k + 1) = yt.take (k + 1) by rw [List.take_succ_eq_append_getElem l1, List.take_succ_eq_append_getElem l2, HK.out, h])
                have HF := Lib.hid (fun (h : xt[k] ≠ yt[k]) => show xt ≠ yt from fun e => h (by subst e; rfl))
                generalize xt[k] = xs at *
                generalize yt[k] = ys at *
                by_cases hq : xs = ys
                · subst hq
                  have c1 := toList_self xs
                  have HT2 := Lib.hid (HT.out rfl)
                  go_upto_region 6 with fail
                  refine wp_region_held_drew (S := fun w' => w' = (wr).drew) (by kernel_rfl) rfl (fun hHeld => ?_)
                  refine takeL 0 (v := ?_) rfl (by kernel_rfl) (by kernel_rfl) (by kernel_rfl) (fun _ _ _ h => h) (by kernel_rfl) ?_ (by assumption) ?_; rotate_left; (focus (intro w hSw; (try dsimp only at hSw); go_simp <;> with_reducible rfl)); (try simp only [Act.put, List.setIfInBounds_toArray, List.set_cons_zero, List.set_cons_succ])
                  refine takeL 1 (v := ?_) rfl (by kernel_rfl) (by kernel_rfl) (by kernel_rfl) (fun _ _ _ h => h) (by kernel_rfl) ?_ (by assumption) ?_; rotate_left; (focus (intro w hSw; (try dsimp only at hSw); go_simp <;> with_reducible rfl)); (try simp only [Act.put, List.setIfInBounds_toArray, List.set_cons_zero, List.set_cons_succ])
                  refine takeL 2 (v := ?_) rfl (by kernel_rfl) (by kernel_rfl) (by kernel_rfl) (fun _ _ _ h => h) (by kernel_rfl) ?_ (by assumption) ?_; rotate_left; (focus (intro w hSw; (try dsimp only at hSw); go_simp <;> with_reducible rfl)); (try simp only [Act.put, List.setIfInBounds_toArray, List.set_cons_zero, List.set_cons_succ])
                  refine takeL 3 (v := ?_) rfl (by kernel_rfl) (by kernel_rfl) (by kernel_rfl) (fun _ _ _ h => h) (by kernel_rfl) ?_ (by assumption) ?_; rotate_left; (focus (intro w hSw; (try dsimp only at hSw); go_simp <;> with_reducible rfl)); (try simp only [Act.put, List.setIfInBounds_toArray, List.set_cons_zero, List.set_cons_succ])
                  refine takeL 4 (v := ?_) rfl (by kernel_rfl) (by kernel_rfl) (by kernel_rfl) (fun _ _ _ h => h) (by kernel_rfl) ?_ (by assumption) ?_; rotate_left; (focus (intro w hSw; (try dsimp only at hSw); go_simp <;> with_reducible rfl)); (try simp only [Act.put, List.setIfInBounds_toArray, List.set_cons_zero, List.set_cons_succ])
                  refine takeL 5 (v := ?_) rfl (by kernel_rfl) (by kernel_rfl) (by kernel_rfl) (fun _ _ _ h => h) (by kernel_rfl) ?_ (by assumption) ?_; rotate_left; (focus (intro w hSw; (try dsimp only at hSw); go_simp <;> with_reducible rfl)); (try simp only [Act.put, List.setIfInBounds_toArray, List.set_cons_zero, List.set_cons_succ])
                  refine takeL 6 (v := ?_) rfl (by kernel_rfl) (by kernel_rfl) (by kernel_rfl) (fun _ _ _ h => h) (by kernel_rfl) ?_ (by assumption) ?_; rotate_left; (focus (intro w hSw; (try dsimp only at hSw); go_simp <;> with_reducible rfl)); (try simp only [Act.put, List.setIfInBounds_toArray, List.set_cons_zero, List.set_cons_succ])
                  refine takeL 7 (v := ?_) rfl (by kernel_rfl) (by kernel_rfl) (by kernel_rfl) (fun _ _ _ h => h) (by kernel_rfl) ?_ (by assumption) ?_; rotate_left; (focus (intro w hSw; (try dsimp only at hSw); go_simp <;> with_reducible rfl)); (try simp only [Act.put, List.setIfInBounds_toArray, List.set_cons_zero, List.set_cons_succ])
                  refine takeL 8 (v := ?_) rfl (by kernel_rfl) (by kernel_rfl) (by kernel_rfl) (fun _ _ _ h => h) (by kernel_rfl) ?_ (by assumption) ?_; rotate_left; (focus (intro w hSw; (try dsimp only at hSw); go_simp <;> with_reducible rfl)); (try simp only [Act.put, List.setIfInBounds_toArray, List.set_cons_zero, List.set_cons_succ])
                  refine takeL 9 (v := ?_) rfl (by kernel_rfl) (by kernel_rfl) (by kernel_rfl) (fun _ _ _ h => h) (by kernel_rfl) ?_ (by assumption) ?_; rotate_left; (focus (intro w hSw; (try dsimp only at hSw); go_simp <;> with_reducible rfl)); (try simp only [Act.put, List.setIfInBounds_toArray, List.set_cons_zero, List.set_cons_succ])
                  refine takeL 10 (v := ?_) rfl (by kernel_rfl) (by kernel_rfl) (by kernel_rfl) (fun _ _ _ h => h) (by kernel_rfl) ?_ (by assumption) ?_; rotate_left; (focus (intro w hSw; (try dsimp only at hSw); go_simp <;> with_reducible rfl)); (try simp only [Act.put, List.setIfInBounds_toArray, List.set_cons_zero, List.set_cons_succ])
                  refine wpAnyH_done (by kernel_rfl) ?_ _
                  go_wp2_with fail
                  go_roundw
                  case rel => exact ⟨k + 1, by omega, by go_num, HT2, Ext.drew e1⟩
                  case measure => simp [intOf]; omega
                · have c1 := toList_ne hq
                  have HF2 := Lib.hid (decide_eq_false (HF.out hq))
                  clear hq
                  go_upto_region 6 with fail
                  refine wp_region_held_drew (S := fun w' => w' = (wr).drew) (by kernel_rfl) rfl (fun hHeld => ?_)
                  refine takeL 0 (v := ?_) rfl (by kernel_rfl) (by kernel_rfl) (by kernel_rfl) (fun _ _ _ h => h) (by kernel_rfl) ?_ (by assumption) ?_; rotate_left; (focus (intro w hSw; (try dsimp only at hSw); go_simp <;> with_reducible rfl)); (try simp only [Act.put, List.setIfInBounds_toArray, List.set_cons_zero, List.set_cons_succ])
                  refine takeL 1 (v := ?_) rfl (by kernel_rfl) (by kernel_rfl) (by kernel_rfl) (fun _ _ _ h => h) (by kernel_rfl) ?_ (by assumption) ?_; rotate_left; (focus (intro w hSw; (try dsimp only at hSw); go_simp <;> with_reducible rfl)); (try simp only [Act.put, List.setIfInBounds_toArray, List.set_cons_zero, List.set_cons_succ])
                  refine takeL 2 (v := ?_) rfl (by kernel_rfl) (by kernel_rfl) (by kernel_rfl) (fun _ _ _ h => h) (by kernel_rfl) ?_ (by assumption) ?_; rotate_left; (focus (intro w hSw; (try dsimp only at hSw); go_simp <;> with_reducible rfl)); (try simp only [Act.put, List.setIfInBounds_toArray, List.set_cons_zero, List.set_cons_succ])
                  refine takeL 3 (v := ?_) rfl (by kernel_rfl) (by kernel_rfl) (by kernel_rfl) (fun _ _ _ h => h) (by kernel_rfl) ?_ (by assumption) ?_; rotate_left; (focus (intro w hSw; (try dsimp only at hSw); go_simp <;> with_reducible rfl)); (try simp only [Act.put, List.setIfInBounds_toArray, List.set_cons_zero, List.set_cons_succ])
                  refine takeL 4 (v := ?_) rfl (by kernel_rfl) (by kernel_rfl) (by kernel_rfl) (fun _ _ _ h => h) (by kernel_rfl) ?_ (by assumption) ?_; rotate_left; (focus (intro w hSw; (try dsimp only at hSw); go_simp <;> with_reducible rfl)); (try simp only [Act.put, List.setIfInBounds_toArray, List.set_cons_zero, List.set_cons_succ])
                  refine takeL 5 (v := ?_) rfl (by kernel_rfl) (by kernel_rfl) (by kernel_rfl) (fun _ _ _ h => h) (by kernel_rfl) ?_ (by assumption) ?_; rotate_left; (focus (intro w hSw; (try dsimp only at hSw); go_simp <;> with_reducible rfl)); (try simp only [Act.put, List.setIfInBounds_toArray, List.set_cons_zero, List.set_cons_succ])
                  refine takeL 6 (v := ?_) rfl (by kernel_rfl) (by kernel_rfl) (by kernel_rfl) (fun _ _ _ h => h) (by kernel_rfl) ?_ (by assumption) ?_; rotate_left; (focus (intro w hSw; (try dsimp only at hSw); go_simp <;> with_reducible rfl)); (try simp only [Act.put, List.setIfInBounds_toArray, List.set_cons_zero, List.set_cons_succ])
                  refine takeL 7 (v := ?_) rfl (by kernel_rfl) (by kernel_rfl) (by kernel_rfl) (fun _ _ _ h => h) (by kernel_rfl) ?_ (by assumption) ?_; rotate_left; (focus (intro w hSw; (try dsimp only at hSw); go_simp <;> with_reducible rfl)); (try simp only [Act.put, List.setIfInBounds_toArray, List.set_cons_zero, List.set_cons_succ])
                  refine takeL 8 (v := ?_) rfl (by kernel_rfl) (by kernel_rfl) (by kernel_rfl) (fun _ _ _ h => h) (by kernel_rfl) ?_ (by assumption) ?_; rotate_left; (focus (intro w hSw; (try dsimp only at hSw); go_simp <;> with_reducible rfl)); (try simp only [Act.put, List.setIfInBounds_toArray, List.set_cons_zero, List.set_cons_succ])
                  refine takeL 9 (v := ?_) rfl (by kernel_rfl) (by kernel_rfl) (by kernel_rfl) (fun _ _ _ h => h) (by kernel_rfl) ?_ (by assumption) ?_; rotate_left; (focus (intro w hSw; (try dsimp only at hSw); go_simp <;> with_reducible rfl)); (try simp only [Act.put, List.setIfInBounds_toArray, List.set_cons_zero, List.set_cons_succ])
                  refine takeL 10 (v := ?_) rfl (by kernel_rfl) (by kernel_rfl) (by kernel_rfl) (fun _ _ _ h => h) (by kernel_rfl) ?_ (by assumption) ?_; rotate_left; (focus (intro w hSw; (try dsimp only at hSw); go_simp <;> with_reducible rfl)); (try simp only [Act.put, List.setIfInBounds_toArray, List.set_cons_zero, List.set_cons_succ])
                  refine wpAnyH_done (by kernel_rfl) ?_ _
                  go_wp2_with fail
                  go_ret
                  exact ⟨retB (by rw [HS.out, HF2.out]; simp), HE.out.trans (Ext.drew e1)⟩
              · obtain rfl : k = xtn := by omega
                have hE : xt = yt := by
                  have h := HK.out
                  rw [List.take_of_length_le (by rw [← HNx.out]; exact Nat.le_refl _), List.take_of_length_le (by rw [← HNy.out]; exact Nat.le_refl _)] at h
                  exact h
                have HEq := Lib.hid (decide_eq_true hE)
                clear hE
                go_wp2_with fail
                go_ret
                exact ⟨retB (by rw [HS.out, HEq.out, HH0.out, HH1.out]; rfl), HE.out.trans e1⟩
end Go.Proofs.YtmecjjmlccdppaaGreatDoor
/- StagingSnaps: the law's walk. -/
namespace Go.Proofs.YtmecjjmlccdppaaGreatDoor
open Go.RowKit
set_option linter.unusedVariables false
set_option linter.unusedSimpArgs false

set_option maxRecDepth 100000 in
set_option maxHeartbeats 8000000 in
theorem ssnaps_any (w : World) (hM : MaxV w) (x : Stg) (hx : x.ok w) (fA : Option Addr) (fn fc : Nat) (fs : List Prp) (hf : PlOk w ⟨fA, fn, fc, fs⟩) :
    Calls Tryz.prog 5 #[.agg x.cells.toArray, .slice fA fn fc] w fun e w' => e = .returned (.bool true) ∧ Ext w w' := by
  have HAl := Lib.hid (fun W (hW : Ext w W) => alive_any W (hM.ext hW))
  have HS1 := Lib.hid (fun W (hW : Ext w W) => snap_any W (hM.ext hW) x (hx.ext hW) fA fn fc fs (hf.ext hW))
  have HS2 := Lib.hid (fun W (hW : Ext w W) => rsnap_any W x (hx.ext hW) fA fn fc fs (hf.ext hW))
  have HSa := Lib.hid (fun W y1 y2 (h : Snp.bare y1 = Snp.bare y2) (h1 : y1.rd W) (h2 : y2.rd W) => show Calls Tryz.prog 19 #[.agg y1.cells.toArray, .agg y2.cells.toArray] W fun e w' => e = .returned (.bool true) ∧ Ext W w' from by
    have h3 := samesnap_any W y1 y2 h1 h2
    rwa [sameSn_bare y1 y2 h] at h3)
  clear hx hf
  generalize snapA x fs = SA at *
  generalize snapE x fs = V at *
  obtain ⟨into, ⟨kind, name, frm, guid, oA, on, oc, own, index, count, data, s0, s1, s2, s3⟩, bA, bn, bc, body, pos, next, ⟨ua, ub, uc, ud⟩, dn⟩ := x
  simp only [Stg.cells, Rec.cells, Su.cells, List.cons_append, List.nil_append] at HS1 HS2 ⊢
  go_enter Tryz.func5, Tryz.ntmps5
  go_upto_region 1 with fail
  generalize hwH : World.alloc w _ = w1; have HH := Lib.hid (Heap.one hwH); clear hwH
  go_wp2_with (refine shl_load HH.out sizeStg (by kernel_rfl) rfl rfl rfl 0 rfl rfl ?_)
  refine (HS1.out _ HH.out.ext).mono ?_
  rintro e w2 ⟨y1, rfl, b1, d1, e2⟩
  have HH2 := Lib.hid (HH.out.later e2)
  have HB1 := Lib.hid b1
  have HD1 := Lib.hid d1
  clear HH b1 d1 e2
  have HH := HH2
  clear HH2
  go_upto_region 2 with (refine shl_store ((Heap.start _).alloc _ _) sizeSnp rfl rfl rfl rfl 0 rfl rfl rfl rfl ?_; intro wA HHS; have TwA := Lib.hid HHS.ext; have HHn := Lib.hid (HH.out.join1 HHS rfl); clear HH HHS; have HH := HHn; clear HHn)
  go_wp2_with (refine shl_load HH.out sizeStg (by kernel_rfl) rfl rfl rfl 1 rfl rfl ?_)
  refine (HS2.out _ HH.out.ext).mono ?_
  rintro e w3 ⟨y2, rfl, b2, d2, e3⟩
  have HH3 := Lib.hid (HH.out.later e3)
  have HB := Lib.hid (HB1.out.trans b2.symm)
  have HD2 := Lib.hid d2
  have HD3 := Lib.hid (HD1.out.ext (TwA.out.trans e3))
  clear HH b2 d2 e3 HB1 HD1
  have HH := HH3
  clear HH3
  go_upto_region 3 with (refine shl_store ((Heap.start _).alloc _ _) sizeSnp rfl rfl rfl rfl 0 rfl rfl rfl rfl ?_; intro wB HHS; have TwB := Lib.hid HHS.ext; have HHn := Lib.hid (HH.out.join1 HHS rfl); clear HH HHS; have HH := HHn; clear HHn)
  have HS := Lib.hid (HSa.out _ y1 y2 HB.out (HD3.out.ext TwB.out) (HD2.out.ext TwB.out))
  go_wp2_with (first | (refine shl_load HH.out sizeSnp (by kernel_rfl) rfl rfl rfl 1 rfl rfl ?_) | (refine shl_load HH.out sizeSnp (by kernel_rfl) rfl rfl rfl 0 rfl rfl ?_))
  refine HS.out.mono ?_
  rintro e w4 ⟨rfl, e4⟩
  have HH4 := Lib.hid (HH.out.later e4)
  clear HH e4
  have HH := HH4
  clear HH4
  go_wp2_with (first | (go_at_call 14; refine (num_any _ _).mono ?_; rintro e w6 ⟨rfl, rfl⟩) | (go_at_call 15; refine (HAl.out _ HH.out.ext).mono ?_; rintro e w7 ⟨rfl, e7⟩))
  go_ret
  exact ⟨rfl, HH.out.ext.trans e7⟩
end Go.Proofs.YtmecjjmlccdppaaGreatDoor
