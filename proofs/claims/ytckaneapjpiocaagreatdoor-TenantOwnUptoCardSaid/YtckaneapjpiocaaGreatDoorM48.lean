/- The texts Spl, Tow in one file. -/
import Derived.Test.YtckaneapjpiocaaGreatDoorM2
import Derived.Test.YtckaneapjpiocaaGreatDoorM11
import Derived.Test.YtckaneapjpiocaaGreatDoorM45
namespace Go.Proofs.YtckaneapjpiocaaGreatDoor
open Go.RowKit Go.Maps Go.Sort Go.Shelf
set_option linter.unusedVariables false
set_option linter.unusedSimpArgs false
def octL (n : Nat) (zs : List Value) : Prop := zs.length = n ∧ ∀ z ∈ zs, ∃ y : Int, z = .int .u8 y
theorem set_self' {its : List It} {i : Nat} {x : It} (h : its[i]? = some x) : its.set i x = its := by
  apply List.ext_getElem?
  intro j
  rw [List.getElem?_set]
  split
  · rename_i e; subst e; rw [h]; split
    · rfl
    · rename_i h2; exact absurd (List.getElem?_eq_some_iff.1 h).1 h2
  · rfl
set_option maxRecDepth 100000 in
set_option maxHeartbeats 4000000 in
theorem spoil_any {w0 w : World} {its : List It} (H : Heap w0 its w) (i : Nat) (A : Option Addr) (n c : Nat) (ys : List UInt8) (hi : its[i]? = some (.row 5 1 (.slice A n c) n (bytes ys))) (hm : n ≤ maxLen) :
    Calls Tryz.prog 19 #[.slice A n c] w fun e w' => (∃ v, e = .returned v) ∧ ∃ zs : List Value, Heap w0 (its.set i (.row 5 1 (.slice A n c) n zs)) w' := by
  have hil : i < its.length := (List.getElem?_eq_some_iff.1 hi).1
  have HI := Lib.hid (fun zs => List.getElem?_set_self (a := It.row 5 1 (.slice A n c) n zs) hil)
  have H0 := Lib.hid (show Heap w0 (its.set i (.row 5 1 (.slice A n c) n (bytes ys))) w by rw [set_self' hi]; exact H)
  have h0 := Lib.hid (show octL n (bytes ys) from ⟨by have := (H.rowAt i hi).1; omega, fun z hz => by
    obtain ⟨b, _, rfl⟩ := List.mem_map.1 hz
    exact ⟨_, rfl⟩⟩)
  have hm2 : n ≤ 9223372036854775807 := Nat.le_trans hm (by decide)
  clear hi H hm
  generalize bytes ys = zs at *
  go_enter Tryz.func19, Tryz.ntmps19
  go_wp2_with fail
  go_loopw [2] (fun v wr => ∃ (k : Nat) (zs : List Value), k ≤ n ∧ v = .int .i64 (k : Int) ∧ Hid (octL n zs) ∧ Hid (Heap w0 (its.set i (.row 5 1 (.slice A n c) n zs)) wr)) (fun v _ => n - (intOf v).toNat)
  case atStart => exact ⟨0, zs, Nat.zero_le _, rfl, h0, H0⟩
  case round =>
    clear H0 h0
    obtain ⟨k, zs, hk, rfl, HZ, HH⟩ := hrel
    by_cases hlt : k < n
    · obtain ⟨g, c', hg⟩ := HH.out.rowForm i (HI.out zs) (by omega)
      obtain ⟨rfl, rfl⟩ : A = some ⟨g, 0, none⟩ ∧ c = c' := by simpa using hg
      clear hg
      have hl : k < zs.length := by rw [HZ.out.1]; exact hlt
      obtain ⟨z, hz⟩ := HZ.out.2 _ (List.getElem_mem hl)
      have f0 : wr.cell? ⟨g, k, none⟩ = some (.int .u8 z) := by rw [← hz]; exact (HH.out.rowAt i (HI.out zs)).cellAt k (by omega) |>.trans (List.getElem?_eq_getElem hl)
      have hkn : (k : Int) < (n : Int) := by omega
      clear hz hl
      go_upto_region 2 with (refine shl_rstore1 HH.out rfl rfl rfl rfl i (HI.out zs) (by omega) rfl (by kernel_rfl) ?_; clear HH f0; intro wS HHS; have HH := Lib.hid HHS; clear HHS)
      have HH2 := HH.out
      rw [set_set] at HH2
      rename_i wr0
      have HH3 := Lib.hid HH2
      clear HH HH2
      go_wp2_with fail
      go_roundw
      case rel =>
        refine ⟨k + 1, _, by omega, by go_num, ?_, HH3⟩
        have h1 := HZ.out.1
        refine Lib.hid ⟨by simp; omega, fun z hz => ?_⟩
        rcases List.mem_append.1 hz with hz | hz
        · rcases List.mem_append.1 hz with hz | hz
          · exact HZ.out.2 z (List.mem_of_mem_take hz)
          · simp only [List.mem_singleton] at hz
            exact ⟨_, hz⟩
        · exact HZ.out.2 z (List.mem_of_mem_drop hz)
      case measure => simp [intOf]; omega
    · obtain rfl : k = n := by omega
      go_wp2_with fail
      go_end0
      exact ⟨⟨_, rfl⟩, zs, HH.out⟩
open Go.RowKit Go.Maps Go.Sort Go.Shelf
set_option linter.unusedVariables false
set_option linter.unusedSimpArgs false
theorem Heap.swap {w0 w : World} {a b : List It} (H : Heap w0 (a ++ b) w) : Heap w0 (b ++ a) w := by
  have e : ∀ i y, (b ++ a)[i]? = some y → i < b.length + a.length := fun i y h => by
    have := (List.getElem?_eq_some_iff.1 h).1
    rwa [List.length_append] at this
  refine H.sub' (fun i => if i < b.length then i + a.length else if i < b.length + a.length then i - b.length else i) (fun i j h => ?_) fun i y hy => ?_
  · (try dsimp only at h)
    split at h <;> split at h <;> (try split at h) <;> (try split at h) <;> omega
  · have h9 := e i y hy
    by_cases h1 : i < b.length
    · rw [if_pos h1, List.getElem?_append_right (by omega), Nat.add_sub_cancel]
      rwa [List.getElem?_append_left h1] at hy
    · rw [if_neg h1, if_pos h9, List.getElem?_append_left (by omega)]
      rwa [List.getElem?_append_right (by omega)] at hy
set_option maxRecDepth 100000 in
set_option maxHeartbeats 16000000 in
theorem town_any (w : World) (t : Tnt) (hM : MaxV w) (h : Tnt.At w 0 w.heap.size t) :
    Calls Tryz.prog 6 #[.agg t.cells.toArray] w fun e w' => e = .returned (.bool true) ∧ Ext w w' := by
  have HAl := Lib.hid (alive25_any)
  have HMx := Lib.hid hM
  have HOb := Lib.hid (fun W (hW : Ext w W) => objects_any W t (Tnt.At.on h hW (Nat.le_refl _)) (fun W' hW' => tcheck_any W' t (hM.ext (hW.trans hW')) (Tnt.At.on h (hW.trans hW') (Nat.le_refl _))))
  obtain ⟨OO, hOO⟩ : ∃ OO, OO = fun W => ObsOk W t := ⟨_, rfl⟩
  cases ht : tenB t with
  | false =>
    have HO2 := Lib.hid (fun W (hW : Ext w W) => (HOb.out W hW).mono (R' := fun e w' => e = .returned (.tuple #[.slice none 0 0, .int .i64 9]) ∧ Ext W w') fun e w' q => by
      rcases q with ⟨_, q⟩ | ⟨q, _⟩
      · exact q
      · rw [ht] at q; cases q)
    clear HOb hOO h hM ht
    obtain ⟨name, quota, next, ⟨sA, sn, sc, ss⟩, ⟨gA, gn, gc, gs⟩, ⟨aA, an, ac, ax⟩, ⟨lA, ln, lc, ls⟩⟩ := t
    simp only [Tnt.cells, Sl.val] at *
    go_enter Tryz.func6, Tryz.ntmps6
    go_upto_region 1 with fail
    generalize hwH : World.alloc w _ = w1; have HH := Lib.hid (Heap.one hwH); clear hwH
    go_wp2_with fail
    refine (HAl.out _ (HMx.out.ext HH.out.ext)).mono ?_
    rintro e w2 ⟨rfl, e2⟩
    replace HH := Lib.hid (HH.out.later e2)
    clear e2
    go_wp2_with (refine shl_load HH.out sizeTnt (by kernel_rfl) rfl rfl rfl 0 rfl rfl ?_)
    refine (HO2.out _ HH.out.ext).mono ?_
    rintro e w3 ⟨rfl, e3⟩
    replace HH := Lib.hid (HH.out.later e3)
    clear e3
    go_wp2_with fail
    go_ret
    exact ⟨rfl, HH.out.ext⟩
  | true =>
    have HO2 := Lib.hid (fun W (hW : Ext w W) => (HOb.out W hW).mono (R' := fun e w' => ∃ (A : Option Addr) (c : Nat) (os : List Ob), e = .returned (.tuple #[.slice A os.length c, .int .i64 0]) ∧ os.map obk = obL t ∧ Heap W (.row 56 3 (.slice A os.length c) os.length (os.flatMap Ob.cells) :: os.map datIt) w') fun e w' q => by
      rcases q with ⟨q, _⟩ | ⟨_, q⟩
      · rw [ht] at q; cases q
      · exact q)
    have HRb := Lib.hid (fun w0 w1 (hW : Ext w w1) (A : Option Addr) (c : Nat) (os : List Ob) (ho : os.map obk = obL t) (H : Heap w0 (.row 56 3 (.slice A os.length c) os.length (os.flatMap Ob.cells) :: os.map datIt) w1) => tback_read (hM.ext hW) (Tnt.At.on h hW (Nat.le_refl _)) ht ho H)
    have HSm := Lib.hid (fun W (hW : Ext w W) (u : Tnt) (hu : Tnt.At W 0 W.heap.size u) (hb : u.bare = t.bare) => show Calls Tryz.prog 18 #[.agg t.cells.toArray, .agg u.cells.toArray] W fun e w' => e = .returned (.bool true) ∧ Ext W w' by
      have h1 := Tnt.At.on h hW (Nat.le_refl _)
      have := rsame14_any W t u h1 hu
      rwa [tnEq_bare h1 hu hb.symm] at this)
    have HLn := Lib.hid (fun (os : List Ob) (ho : os.map obk = obL t) => show os.length ≤ 37 by
      have hl := congrArg List.length ho
      simp only [tenB, setsB, stsB, Bool.and_eq_true, decide_eq_true_eq] at ht
      rw [List.length_map, obL, objT] at hl
      simp only [List.length_map, List.length_cons, List.length_append] at hl
      have := ht.2.2.2.1.1
      have := ht.2.2.2.2.2.1.1
      omega)
    have HDt := Lib.hid (fun w0 w1 (A : Option Addr) (c : Nat) (os : List Ob) (ho : os.map obk = obL t) (H : Heap w0 (.row 56 3 (.slice A os.length c) os.length (os.flatMap Ob.cells) :: os.map datIt) w1) => (obs_at ht ho H).2.1)
    clear HOb hOO h hM ht
    obtain ⟨name, quota, next, ⟨sA, sn, sc, ss⟩, ⟨gA, gn, gc, gs⟩, ⟨aA, an, ac, ax⟩, ⟨lA, ln, lc, ls⟩⟩ := t
    simp only [Tnt.cells, Sl.val] at HO2 HSm ⊢
    dsimp only at HRb
    go_enter Tryz.func6, Tryz.ntmps6
    go_upto_region 1 with fail
    generalize hwH : World.alloc w _ = w1; have HH := Lib.hid (Heap.one hwH); clear hwH
    obtain ⟨tb, htb⟩ : ∃ b, b = w.heap.size := ⟨_, rfl⟩
    rw [← htb] at HH ⊢
    clear htb
    go_wp2_with fail
    refine (HAl.out _ (HMx.out.ext HH.out.ext)).mono ?_
    rintro e w2 ⟨rfl, e2⟩
    replace HH := Lib.hid (HH.out.later e2)
    clear e2
    go_wp2_with (refine shl_load HH.out sizeTnt (by kernel_rfl) rfl rfl rfl 0 rfl rfl ?_)
    refine (HO2.out _ HH.out.ext).mono ?_
    rintro e w3 ⟨A, c, os, rfl, ho, h3⟩
    have HH3 := Lib.hid h3
    have HO := Lib.hid ho
    have HD3 := Lib.hid (HDt.out _ _ A c os ho h3)
    have HH2 := HH
    replace HH := Lib.hid (HH.out.later h3.ext)
    clear h3 ho HO2 HDt
    go_wp2_with (refine shl_load1 HH.out rfl rfl rfl 0 rfl rfl (by decide +kernel) ?_)
    refine (HRb.out _ _ HH.out.ext A c os HO.out HH3.out).mono ?_
    rintro e w5 ⟨u, S, L, rfl, hub, hin, hfit, h5⟩
    have HI := Lib.hid (And.intro hub (And.intro hin hfit))
    have HJ := Lib.hid ((HH3.out.joinR h5).swap)
    clear hub hin hfit h5 HH HRb
    have HUc := Lib.hid (show u.cells = [.string u.name, .int .i64 u.quota, .int .i64 u.next, .slice u.sets.A u.sets.n u.sets.c, .slice u.grants.A u.grants.n u.grants.c, .slice u.stages.A u.stages.n u.stages.c, .slice u.log.A u.log.n u.log.c] from rfl)
    rw [HUc.out]
    go_upto_region 7 with (refine shl_store ((Heap.start _).alloc _ _) sizeTnt rfl rfl rfl rfl 0 rfl rfl rfl rfl ?_; intro wS HHS; have HJ2 := Lib.hid ((HJ.out.joinR HHS).swap); clear HHS)
    obtain ⟨ub, hub⟩ : ∃ b, b = w5.heap.size := ⟨_, rfl⟩
    rw [← hub] at HJ2 ⊢
    clear hub HJ
    obtain ⟨uv, huv⟩ : ∃ uv : List Value, uv = [.string u.name, .int .i64 u.quota, .int .i64 u.next, .slice u.sets.A u.sets.n u.sets.c, .slice u.grants.A u.grants.n u.grants.c, .slice u.stages.A u.stages.n u.stages.c, .slice u.log.A u.log.n u.log.c] := ⟨_, rfl⟩
    have Huv := Lib.hid huv
    have HJ := Lib.hid (show Heap w2 (.box ub uv :: It.bag S L :: .row 56 3 (.slice A os.length c) os.length (os.flatMap Ob.cells) :: os.map datIt) wS by rw [huv]; exact HJ2.out)
    have hol : os.length ≤ 37 := HLn.out os HO.out
    clear HJ2 huv
    go_wp2_with fail
    go_loopw [7] (fun v wr => ∃ (j : Nat) (D : List It), j ≤ os.length ∧ v = .int .i64 (j : Int) ∧ Hid (D.length = os.length ∧ ∀ i, j ≤ i → D[i]? = (os.map datIt)[i]?) ∧ Hid (Heap w2 (.box ub uv :: It.bag S L :: .row 56 3 (.slice A os.length c) os.length (os.flatMap Ob.cells) :: D) wr)) (fun v _ => os.length - (intOf v).toNat)
    case atStart => exact ⟨0, os.map datIt, Nat.zero_le _, rfl, Lib.hid ⟨by rw [List.length_map], fun _ _ => rfl⟩, HJ⟩
    case round =>
      clear HJ
      obtain ⟨j, D, hj, rfl, HD, HH⟩ := hrel
      by_cases hlt : j < os.length
      · obtain ⟨b1, o1, hlA, hb1, f0, f1, f2⟩ := rd_ob (HH.out.rowRd 2 rfl) hlt
        subst hlA
        have HDj := Lib.hid (show D[j]? = some (datIt os[j]) by rw [HD.out.2 j (Nat.le_refl _)]; simp [hlt])
        have hdn : (os[j]).data.n ≤ maxLen := Nat.le_trans (HD3.out _ (List.getElem_mem hlt)) (by decide)
        generalize os[j] = x at *
        obtain ⟨key, ⟨dA, dn, dc, dx⟩, ⟨qA, qn, qc, qx⟩⟩ := x
        simp only [Sl.val] at f1 f2
        have hjk : (j : Int) < (os.length : Int) := by omega
        clear f0 f2
        go_wp2_with fail
        refine (spoil_any HH.out (j + 3) dA dn dc dx HDj.out hdn).mono ?_
        rintro e w8 ⟨⟨v, rfl⟩, zs, h8⟩
        replace HH := Lib.hid h8
        clear h8 f1
        simp only [List.set_cons_succ] at HH
        go_wp2_with fail
        go_roundw
        case rel =>
          refine ⟨j + 1, D.set j _, by omega, by go_num, Lib.hid ⟨by rw [List.length_set]; exact HD.out.1, fun i hi => ?_⟩, HH⟩
          rw [List.getElem?_set_ne (by omega)]
          exact HD.out.2 i (by omega)
        case measure => (first | (simp [intOf]; done) | (simp [intOf]; omega))
      · obtain rfl : j = os.length := by omega
        have hi := HI.out
        have hE := HH2.out.ext.trans HH.out.ext
        have HSm2 := Lib.hid (HSm.out wr hE u (hi.2.1.at_ HH.out (j := 1) rfl hi.2.2) hi.1)
        have HT := Lib.hid (HH2.out.later HH.out.ext)
        obtain ⟨c0, c1, c2, c3, c4, c5, c6, -⟩ := bxN7 (HT.out.boxAt 0 rfl)
        have hb := HH.out.boxAt 0 rfl
        rw [Huv.out] at hb
        obtain ⟨d0, d1, d2, d3, d4, d5, d6, -⟩ := bxN7 hb
        clear hi hb HI HUc HSm
        go_wp2_with fail
        refine HSm2.out.mono ?_
        rintro e w9 ⟨rfl, e9⟩
        go_wp2_with fail
        go_ret
        exact ⟨rfl, hE.trans e9⟩
end Go.Proofs.YtckaneapjpiocaaGreatDoor
