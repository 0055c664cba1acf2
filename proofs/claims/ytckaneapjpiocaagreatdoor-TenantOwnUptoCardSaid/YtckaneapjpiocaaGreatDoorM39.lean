/- The texts Alv, Rf3 in one file. -/
import Derived.Test.YtckaneapjpiocaaGreatDoorM37
import Derived.Test.YtckaneapjpiocaaGreatDoorM38
import Derived.Test.YtckaneapjpiocaaGreatDoorM27
import Derived.Test.YtckaneapjpiocaaGreatDoorM2
namespace Go.Proofs.YtckaneapjpiocaaGreatDoor
open Go.RowKit Go.Maps Go.Sort Go.Shelf
set_option linter.unusedVariables false
set_option linter.unusedSimpArgs false
def zDst : Dst := ⟨.empty, .empty, ⟨none, 0, 0, []⟩, ⟨none, 0, 0, []⟩, ⟨none, 0, 0, []⟩⟩
def alvT (b : Nat) : Tnt := ⟨⟨#[97]⟩, 5, 1, ⟨some ⟨b, 0, none⟩, 1, 1, [zDst]⟩, ⟨none, 0, 0, []⟩, ⟨none, 0, 0, []⟩, ⟨none, 0, 0, []⟩⟩
theorem sl_nil {α : Type} (w : World) (lo hi : Nat) (cells : α → List Value) (I : α → Prop) : Sl.At w lo hi cells I ⟨none, 0, 0, []⟩ :=
  ⟨rfl, Nat.le_refl _, Nat.zero_le _, fun hn => absurd rfl hn, fun y hy => by cases hy⟩
theorem zDst_at (w : World) (lo hi : Nat) : Dst.At w lo hi zDst :=
  ⟨Nat.zero_le _, Nat.zero_le _, sl_nil _ _ _ _ _, Nat.zero_le _, sl_nil _ _ _ _ _, Nat.zero_le _, sl_nil _ _ _ _ _, Nat.zero_le _⟩
theorem alvT_at {w : World} {b : Nat} (h : Bx w b zDst.cells) : Tnt.At w 0 w.heap.size (alvT b) :=
  ⟨show (1 : Nat) ≤ 1048576 by decide, show (Lit.int .i64 5).wf = true by decide, show (Lit.int .i64 1).wf = true by decide, ⟨rfl, Nat.le_refl _, show 1 ≤ maxLen by decide, fun _ => ⟨b, 0, rfl, Nat.zero_le _, h.lt, fun j u hu => by rw [Nat.zero_add]; exact h.cell j u hu⟩, fun x hx => by
    have hx : x ∈ [zDst] := hx
    rw [List.mem_singleton] at hx; subst hx; exact zDst_at _ _ _⟩, sl_nil _ _ _ _ _, sl_nil _ _ _ _ _, sl_nil _ _ _ _ _⟩
theorem alvT_ten (b : Nat) : tenB (alvT b) = true := by kernel_rfl
theorem alvT_obs (b : Nat) : (obL (alvT b)).map Prod.fst = [⟨#[116, 47, 97]⟩, ⟨#[115, 47, 97, 47]⟩] := by kernel_rfl
set_option maxRecDepth 100000 in
set_option maxHeartbeats 4000000 in
theorem rnew_alive (w : World) : Calls Tryz.prog 27 #[.string ⟨#[97]⟩, .int .i64 5] w fun e w' => ∃ b, e = .returned (.tuple #[.agg (alvT b).cells.toArray, .int .i64 0]) ∧ Heap w [.box b zDst.cells] w' := by
  have HNm := Lib.hid (fun W => show Calls Tryz.prog 29 #[.string ⟨#[97]⟩] W fun e w' => e = .returned (.bool true) ∧ Ext W w' from (rname_any ⟨#[97]⟩ W (by decide)).mono fun e w' h => by rw [show nameB ⟨#[97]⟩ = true by kernel_rfl] at h; exact h)
  have HAm := Lib.hid (fun W => show Calls Tryz.prog 30 #[.int .i64 5, .int .i64 0] W fun e w' => e = .returned (.bool true) ∧ Ext W w' from ramount_any W 5 0 (by decide) (by decide))
  go_enter Tryz.func27, Tryz.ntmps27
  go_upto_region 1 with fail
  generalize hwH : World.alloc w _ = w1; have HH := Lib.hid (Heap.one hwH); clear hwH
  go_upto_region 7 with (first | (go_at_call 29; with_reducible refine (HNm.out _).mono ?_; rintro e w2 ⟨rfl, e2⟩; have HH2 := Lib.hid (HH.out.later e2); clear HH e2; have HH := HH2; clear HH2) | (go_at_call 30; with_reducible refine (HAm.out _).mono ?_; rintro e w3 ⟨rfl, e3⟩; have HH3 := Lib.hid (HH.out.later e3); clear HH e3; have HH := HH3; clear HH3))
  go_wp2_with (refine shl_store (HH.out.alloc _ _) sizeTnt rfl rfl rfl rfl 1 rfl rfl rfl rfl ?_; clear HH; intro wS HHS; have HH := Lib.hid HHS; clear HHS)
  refine ret_cell2 sizeTnt (by kernel_rfl) HH.out rfl rfl rfl 1 rfl rfl rfl ?_
  exact ⟨_, rfl, HH.out.only 0 rfl⟩
set_option maxRecDepth 100000 in
theorem num25_any (w : World) (x : Int) : Calls Tryz.prog 28 #[.int .i64 x] w fun e w' => e = .returned (.int .i64 x) ∧ w' = w := by
  go_enter Tryz.func28, Tryz.ntmps28
  go_wp2_with fail
  go_ret
  exact ⟨rfl, rfl⟩
set_option maxRecDepth 100000 in
set_option maxHeartbeats 8000000 in
theorem alive25_any (w : World) (hM : MaxV w) : Calls Tryz.prog 11 #[] w fun e w' => e = .returned (.bool true) ∧ Ext w w' := by
  have HOb := Lib.hid (fun b W (hW : Ext w W) (hb : Bx W b zDst.cells) => objects_any W (alvT b) (alvT_at hb) (fun W' hW' => tcheck_any W' (alvT b) (hM.ext (hW.trans hW')) (Tnt.At.on (alvT_at hb) hW' (Nat.le_refl _))))
  have HNw := Lib.hid (fun W => rnew_alive W)
  have HKs := Lib.hid (fun b os (h : os.map obk = obL (alvT b)) => show ∃ o1 o2 : Ob, os = [o1, o2] ∧ o1.key = ⟨#[116, 47, 97]⟩ ∧ o2.key = ⟨#[115, 47, 97, 47]⟩ by
    have h1 := congrArg (List.map Prod.fst) h
    rw [alvT_obs, List.map_map] at h1
    match os, h1 with
    | [o1, o2], h1 =>
      simp only [List.map_cons, List.map_nil, List.cons.injEq, and_true] at h1
      exact ⟨o1, o2, rfl, h1.1, h1.2⟩
    | [], h1 => simp at h1
    | [_], h1 => simp at h1
    | _ :: _ :: _ :: _, h1 => simp at h1)
  have HOs := Lib.hid (fun b W e w' (q : ObsOk W (alvT b) e w') => show ∃ (A : Option Addr) (c : Nat) (os : List Ob), e = .returned (.tuple #[.slice A os.length c, .int .i64 0]) ∧ os.map obk = obL (alvT b) ∧ Heap W (.row 56 3 (.slice A os.length c) os.length (os.flatMap Ob.cells) :: os.map datIt) w' by
    rcases q with ⟨q, _⟩ | ⟨_, q⟩
    · rw [alvT_ten b] at q; cases q
    · exact q)
  obtain ⟨OO, hOO⟩ : ∃ OO, OO = fun b W => ObsOk W (alvT b) := ⟨_, rfl⟩
  have HOb2 := Lib.hid (fun b W (hW : Ext w W) (hb : Bx W b zDst.cells) => show Calls Tryz.prog 14 #[.agg #[.string ⟨#[97]⟩, .int .i64 5, .int .i64 1, .slice (some ⟨b, 0, none⟩) 1 1, .slice none 0 0, .slice none 0 0, .slice none 0 0]] W (OO b W) by rw [hOO]; exact HOb.out b W hW hb)
  have HOs2 := Lib.hid (fun b W e w' (q : OO b W e w') => HOs.out b W e w' (by rw [hOO] at q; exact q))
  clear HOb HOs hOO hM
  go_enter Tryz.func11, Tryz.ntmps11
  go_wp2_with fail
  refine (HNw.out _).mono ?_
  rintro e w2 ⟨b, rfl, h2⟩
  have HH := Lib.hid h2
  clear h2 HNw
  simp only [alvT, Tnt.cells, Sl.val]
  go_upto_region 2 with (refine shl_store (HH.out.alloc _ _) sizeTnt rfl rfl rfl rfl 0 rfl rfl rfl rfl ?_; clear HH; intro wS HHS; have HH := Lib.hid HHS; clear HHS)
  go_wp2_with (refine shl_load HH.out sizeTnt (by kernel_rfl) rfl rfl rfl 0 rfl rfl ?_)
  refine (HOb2.out b _ HH.out.ext (HH.out.boxAt 1 rfl)).mono ?_
  intro e w3 h3
  obtain ⟨A3, c3, os, rfl, ho, H3⟩ := HOs2.out _ _ _ _ h3
  obtain ⟨o1, o2, rfl, k1, k2⟩ := HKs.out b os ho
  have HE := Lib.hid (HH.out.ext.trans H3.ext)
  obtain ⟨g, cc, hf⟩ := H3.rowForm 0 rfl (show 0 < 2 by decide)
  cases hf
  have g0 : w3.cell? ⟨g, 0, none⟩ = some (.string o1.key) := (H3.rowAt 0 rfl).cellAt 0 (show 0 < 2 * 3 by decide)
  have g3 : w3.cell? ⟨g, 3, none⟩ = some (.string o2.key) := (H3.rowAt 0 rfl).cellAt 3 (show 3 < 2 * 3 by decide)
  rw [k1] at g0
  rw [k2] at g3
  clear h3 H3 ho k1 k2 HH HOb2 HOs2 HKs
  simp only [List.length_cons, List.length_nil, Nat.zero_add, Nat.reduceAdd]
  go_wp2_with fail
  refine (num25_any _ _).mono ?_
  rintro e w4 ⟨rfl, rfl⟩
  go_wp2_with fail
  go_ret
  exact ⟨rfl, HE.out⟩
open Go.RowKit Go.Maps Go.Sort Go.Shelf
set_option linter.unusedVariables false
set_option linter.unusedSimpArgs false
theorem tag_no (l : List ByteArray) (k : Nat) (h : k < l.length) (hp : nameB l[k] = false) : tagB l = false := by
  rw [tagB, all_no nameB l k h hp]; simp
theorem tag_no2 (l : List ByteArray) (j : Nat) (h : j + 1 < l.length) (hp : lessB l[j] l[j + 1] = false) : tagB l = false := by
  rw [tagB, risS_no l j h hp]; simp
theorem tag_yes (l : List ByteArray) (h1 : ∀ k (h : k < l.length), nameB l[k] = true) (h2 : ∀ j (h : j + 1 < l.length), lessB l[j] l[j + 1] = true) : tagB l = decide (l.length ≤ 4) := by
  have a : l.all nameB = true := List.all_eq_true.2 fun x hx => by
    obtain ⟨k, hk, rfl⟩ := List.getElem_of_mem hx
    exact h1 k hk
  rw [tagB, a, risS_yes l h2]; simp
set_option maxRecDepth 100000 in
set_option maxHeartbeats 8000000 in
theorem rtags_any (w : World) (s : Txs) (h : Txs.At w 0 w.heap.size s) :
    Calls Tryz.prog 135 #[s.val] w fun e w' => e = .returned (.bool (tagB s.xs)) ∧ Ext w w' := by
  have HA := Lib.hid h
  obtain ⟨A, n, c, xs⟩ := s
  have Hn := Lib.hid (show n = xs.length from h.len)
  have hm : n ≤ 9223372036854775807 := Nat.le_trans (Nat.le_trans h.le h.cap) (by decide)
  have H1 := Lib.hid (tag_no xs)
  have H2 := Lib.hid (tag_no2 xs)
  have HY := Lib.hid (tag_yes xs)
  dsimp only
  generalize tagB xs = V at *
  clear h
  simp only [Sl.val]
  go_enter Tryz.func135, Tryz.ntmps135
  go_wp2_with fail
  go_loopw [3] (fun v wr => ∃ k : Nat, k ≤ n ∧ v = .int .i64 (k : Int) ∧ Hid ((∀ j (h : j < xs.length), j < k → nameB xs[j] = true) ∧ ∀ j (h : j + 1 < xs.length), j + 1 < k → lessB xs[j] xs[j + 1] = true) ∧ Ext w wr) (fun v _ => n - (intOf v).toNat)
  case atStart => exact ⟨0, Nat.zero_le _, rfl, Lib.hid ⟨fun j h hj => absurd hj (Nat.not_lt_zero _), fun j h hj => absurd hj (Nat.not_lt_zero _)⟩, Ext.refl _⟩
  case round =>
    obtain ⟨k, hk, rfl, HK, e1⟩ := hrel
    by_cases hlt : k < n
    · have l1 : k < xs.length := by rw [← Hn.out]; exact hlt
      obtain ⟨b1, o1, hA1, _, hb1, G⟩ := rd_flat (size := 1) (fun _ => rfl) (by omega) HA.out.rd l1
      dsimp only at hA1
      subst hA1
      have HB1 := Lib.hid (fun hp => H1.out k l1 hp)
      have HR0 := Lib.hid (fun (j : Nat) (hj : k = j + 1) (hp : lessB (xs[j]'(by omega)) xs[k] = false) => show V = false by subst hj; exact H2.out j l1 hp)
      have HT := Lib.hid (fun (h1 : nameB xs[k] = true) (h2 : ∀ j (hj : k = j + 1), lessB (xs[j]'(by omega)) xs[k] = true) => show (∀ j (h : j < xs.length), j < k + 1 → nameB xs[j] = true) ∧ ∀ j (h : j + 1 < xs.length), j + 1 < k + 1 → lessB xs[j] xs[j + 1] = true from
        ⟨fun j h hj => by
          rcases Nat.lt_or_ge j k with h3 | h3
          · exact HK.out.1 j h h3
          · obtain rfl : j = k := by omega
            exact h1, fun j h hj => by
          rcases Nat.lt_or_ge (j + 1) k with h3 | h3
          · exact HK.out.2 j h h3
          · obtain rfl : k = j + 1 := by omega
            exact h2 j rfl⟩)
      have HPv := Lib.hid (fun (j : Nat) (hj : k = j + 1) => show ∃ y : ByteArray, (xs[j]'(by omega)) = y ∧ w.cell? ⟨b1, o1 + j, none⟩ = some (.string y) by
        obtain ⟨b2, o2, hh, _, _, G2⟩ := rd_flat (size := 1) (fun _ => rfl) (by omega) HA.out.rd (k := j) (show j < xs.length by omega)
        obtain ⟨rfl, rfl⟩ : b1 = b2 ∧ o1 = o2 := by simpa using hh
        have q := G2 0 _ rfl
        rw [Nat.mul_one, Nat.add_zero] at q
        exact ⟨_, rfl, q⟩)
      have HNm := Lib.hid (fun W => rname_any xs[k] W (Nat.le_trans (HA.out.all _ (List.getElem_mem l1)) (by decide)))
      have g0 := G 0 _ rfl
      rw [Nat.mul_one, Nat.add_zero] at g0
      clear G
      generalize xs[k] = x at *
      have g0W : ∀ W, Heap w [] W → W.cell? ⟨b1, o1 + k, none⟩ = some (.string x) := fun W hW => (Below.cell hW.ext (World.block_lt_of_cell? w _ g0)).trans g0
      clear g0
      generalize nameB x = nb at *
      have hkn : (k : Int) < (n : Int) := by omega
      go_upto_region 4 with fail
      have HHd := Lib.hid (show Heap w [] (World.drew wr) from ((Heap.start w).later e1).drew)
      refine wp_region_held_drew (S := Heap w []) (by kernel_rfl) HHd.out (fun hHeld => ?_)
      generalize World.drew _ = wd at *
      refine tW 0 4 ?_
      clear hHeld
      refine oS 4 (fun K hK => ?_)
      go_simp
      refine (HNm.out _).mono ?_
      rintro e w3 ⟨rfl, e3⟩
      have HH3 := Lib.hid (HHd.out.later e3)
      clear HHd e3
      go_wp2_with fail
      refine hK.out _ _ (HH3).out (fun hHeld => ?_); clear hK K; (try simp only [Act.put, lyA, lyB, lyC])
      cases nb with
      | false =>
        obtain rfl : V = false := HB1.out rfl
        clear HT HR0 HB1
        refine quiets [(5, some 15, .bool true), (6, some 16, .bool true), (7, some 17, undef), (8, some 18, undef), (9, some 19, undef), (10, some 20, undef), (11, some 21, undef), (12, some 22, undef), (13, some 23, undef), (14, some 24, undef), (15, some 25, undef), (16, some 26, undef), (17, some 27, undef), (18, some 28, undef), (19, some 29, undef), (20, some 30, undef), (21, some 31, .bool true)] rfl (fun _ _ _ _ _ h => h) (by kernel_rfl) (by assumption) ?_; (try simp only [putMany, setMany, Act.put, lyA, lyB, lyC])
        refine wpAnyH_done (by kernel_rfl) ?_ _
        clear hHeld
        go_wp2_with fail
        go_ret
        exact ⟨rfl, HH3.out.ext⟩
      | true =>
        refine tW 5 3 ?_
        by_cases hk0 : k = 0
        · subst hk0
          have HR := Lib.hid (show ∀ j (hj : 0 = j + 1), lessB (xs[j]'(by omega)) x = true from fun j hj => by omega)
          refine tW 8 1 ?_
          have HK2 := Lib.hid (HT.out rfl HR.out)
          clear HT HR0 HB1 HR
          refine quiets [(9, some 19, .bool false), (10, some 20, undef), (11, some 21, undef), (12, some 22, undef), (13, some 23, undef), (14, some 24, undef), (15, some 25, undef), (16, some 26, undef), (17, some 27, undef), (18, some 28, undef), (19, some 29, undef), (20, some 30, .bool false), (21, some 31, .bool false)] rfl (fun _ _ _ _ _ h => h) (by kernel_rfl) (by assumption) ?_; (try simp only [putMany, setMany, Act.put, lyA, lyB, lyC])
          refine wpAnyH_done (by kernel_rfl) ?_ _
          clear hHeld
          go_wp2_with fail
          go_roundw
          case rel => (first | exact ⟨_, by omega, by go_num, HK2, HH3.out.ext⟩ | exact ⟨1, by omega, rfl, HK2, HH3.out.ext⟩)
          case measure => (first | (simp [intOf]; done) | (simp [intOf]; omega))
        · obtain ⟨j, rfl⟩ : ∃ j, k = j + 1 := ⟨k - 1, by omega⟩
          obtain ⟨y, hy, d0⟩ := HPv.out j rfl
          have HRy := Lib.hid (fun hp => HR0.out j rfl (by rw [hy]; exact hp))
          have HRz := Lib.hid (fun (hp : lessB y x = true) (i : Nat) (hi : j + 1 = i + 1) => show lessB (xs[i]'(by omega)) x = true from by obtain rfl : i = j := (by omega); rw [hy]; exact hp)
          have p0 : ∀ W, Heap w [] W → W.cell? ⟨b1, o1 + j, none⟩ = some (.string y) := fun W hW => (Below.cell hW.ext (World.block_lt_of_cell? w _ d0)).trans d0
          clear hy d0
          have q3 : IntKind.i64.wrap (j : Int) = (j : Int) := IntWalk.i64_in _ (by omega)
          have q4 : (0 : Int) < (j : Int) + 1 := by omega
          have q5 : (j : Int) < (n : Int) := by omega
          have q6 : (j : Int) + 1 < (n : Int) := by omega
          have q7 : (0 : Int) ≤ (j : Int) + 1 := by omega
          refine tW 8 11 ?_
          clear p0
          cases hl : lessB y x with
          | false =>
            have hq : (Op.bytesLess x.toList y.toList || x.toList == y.toList) = true := by have q := less_tot' y x; rw [hl] at q; exact q
            refine tW 19 1 ?_
            obtain rfl : V = false := HRy.out hl
            clear HT HR0 HB1
            refine quiets [(20, some 30, .bool true), (21, some 31, .bool true)] rfl (fun _ _ _ _ _ h => h) (by kernel_rfl) (by assumption) ?_; (try simp only [putMany, setMany, Act.put, lyA, lyB, lyC])
            refine wpAnyH_done (by kernel_rfl) ?_ _
            clear hHeld
            go_wp2_with fail
            go_ret
            exact ⟨rfl, HH3.out.ext⟩
          | true =>
            have hq : (Op.bytesLess x.toList y.toList || x.toList == y.toList) = false := by have q := less_tot' y x; rw [hl] at q; exact q
            have HR := Lib.hid (HRz.out hl)
            clear HRy HRz
            refine tW 19 1 ?_
            have HK2 := Lib.hid (HT.out rfl HR.out)
            clear HT HR0 HB1 HR
            refine quiets [(20, some 30, .bool false), (21, some 31, .bool false)] rfl (fun _ _ _ _ _ h => h) (by kernel_rfl) (by assumption) ?_; (try simp only [putMany, setMany, Act.put, lyA, lyB, lyC])
            refine wpAnyH_done (by kernel_rfl) ?_ _
            clear hHeld
            go_wp2_with fail
            go_roundw
            case rel => (first | exact ⟨_, by omega, by go_num, HK2, HH3.out.ext⟩ | exact ⟨1, by omega, rfl, HK2, HH3.out.ext⟩)
            case measure => (first | (simp [intOf]; done) | (simp [intOf]; omega))
    · obtain rfl : k = n := by omega
      have HV : V = decide ((k : Int) ≤ 4) := by
        have q := HY.out (fun j h => HK.out.1 j h (by rw [Hn.out]; exact h)) (fun j h => HK.out.2 j h (by rw [Hn.out]; exact h))
        rw [← Hn.out] at q
        rw [q, decide_eq_decide]; omega
      clear HY H1 H2 HK
      go_wp2_with fail
      go_ret
      exact ⟨by rw [HV]; rfl, e1⟩
end Go.Proofs.YtckaneapjpiocaaGreatDoor
