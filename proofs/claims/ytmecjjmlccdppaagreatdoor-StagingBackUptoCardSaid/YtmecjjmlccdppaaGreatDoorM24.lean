/- The texts Rov, IterA, Iter, Ovm, Over in one file. -/
import Derived.Test.YtmecjjmlccdppaaGreatDoorM22
import Derived.Test.YtmecjjmlccdppaaGreatDoorM23
import Derived.Test.YtmecjjmlccdppaaGreatDoorM8
import Derived.Shelf.SlIter.Nil
import Derived.Shelf.SortM.Plain
import Derived.Shelf.SortM.SortNone
import Derived.Ground.GgzProg
import Derived.Ground.SlgmProg
import Derived.Test.YtmecjjmlccdppaaGreatDoorProg
import Derived.Maps.Own
import Derived.Maps.OwnSet
import Derived.Maps.OwnOps
import Derived.Maps.StringElems
import Derived.Test.YtmecjjmlccdppaaGreatDoorM7
/- The reference's Over (properties laid over one another, chapter 12): the walk. -/
namespace Go.Proofs.YtmecjjmlccdppaaGreatDoor
open Go.RowKit
set_option linter.unusedVariables false
set_option linter.unusedSimpArgs false

/-- a list of properties that can be read -/
structure PlOk (w : World) (s : Sl Prp) : Prop where
  len : s.n = s.xs.length
  rd : Rd w 0 w.heap.size s.A (prps s.xs)
  wf : ∀ x ∈ s.xs, x.name.size ≤ 9223372036854775807 ∧ x.value.size ≤ 9223372036854775807
  small : s.n ≤ 100000000
theorem PlOk.ext {w w' : World} {s : Sl Prp} (h : PlOk w s) (e : Ext w w') : PlOk w' s := ⟨h.len, Rd.at h.rd e (Nat.le_refl _), h.wf, h.small⟩
def ovX (ls : List (Sl Prp)) : List (List Prp) := ls.map Sl.xs
theorem rd_sl {w : World} {lo hi : Nat} {A : Option Addr} {ls : List (Sl Prp)} (h : Rd w lo hi A (ls.map Sl.val)) {k : Nat} (hk : k < ls.length) :
    ∃ b o, A = some ⟨b, o, none⟩ ∧ b < hi ∧ w.cell? ⟨b, o + k, none⟩ = some (.slice ls[k].A ls[k].n ls[k].c) := by
  obtain ⟨b, o, h1, h2, h3, h4⟩ := h (fun e => by have := congrArg List.length e; simp at this; subst this; simp at hk)
  exact ⟨b, o, h1, h3, h4 k _ (by simp [Sl.val, hk])⟩
theorem rdsl_cell {w : World} {lo hi b o : Nat} {ls : List (Sl Prp)} {k : Nat} (h : Rd w lo hi (some ⟨b, o, none⟩) (ls.map Sl.val)) (hk : k < ls.length) : w.cell? ⟨b, o + k, none⟩ = some (.slice ls[k].A ls[k].n ls[k].c) := by
  obtain ⟨b1, o1, he, _, f0⟩ := rd_sl h hk
  cases he
  exact f0
/-- what is told of Over -/
def OvOut (w : World) (ls : List (List Prp)) (e : Ending) (w' : World) : Prop :=
  ∃ v, e = .returned (.tuple #[v, .int .i64 (ovE ls)]) ∧ w'.ownsRow w.heap.size 79 2 v (ovL ls).length (prps (ovL ls)) ∧ Ext w w'
theorem ovOut_none {w w' : World} {ls : List (List Prp)} {E : Int} (h : ovE ls = E) (hE : E ≠ 0) (e : Ext w w') : OvOut w ls (.returned (.tuple #[.slice none 0 0, .int .i64 E])) w' := by
  subst h
  exact ⟨_, rfl, by rw [ovL, if_neg hE]; exact World.ownsRow_nil _ _ _ _, e⟩
theorem ov_bad {ls : List (List Prp)} {k : Nat} (h : k < ls.length) (hb : prE ls[k] ≠ 0) : ovE ls = 9 := by
  unfold ovE
  rw [if_pos]
  rw [List.all_eq_false]
  exact ⟨ls[k], List.getElem_mem h, by simpa using hb⟩
theorem ov_end {ls : List (List Prp)} (h : ls.all (fun xs => decide (prE xs = 0)) = true) : ovE ls = if 8 < (overP ls.flatten).length then 3 else 0 := by
  unfold ovE
  rw [if_neg (by rw [h]; decide)]
theorem pre_len {ls : List (List Prp)} {k : Nat} (h : (ls.take k).all (fun xs => decide (prE xs = 0)) = true) : (ls.take k).flatten.length ≤ 8 * k := by
  have := all_len h
  have h2 : (ls.take k).length ≤ k := by simp; omega
  omega

theorem prE_or (ys : List Prp) : prE ys = 0 ∨ prE ys = 9 := by
  unfold prE
  split
  · exact .inr rfl
  · split
    · exact .inr rfl
    · exact .inl rfl
set_option maxRecDepth 100000 in
set_option maxHeartbeats 8000000 in
theorem rover_any (w : World) (A : Option Addr) (n c : Nat) (ls : List (Sl Prp)) (hn : n = ls.length) (hN : n ≤ 1000) (hr : Rd w 0 w.heap.size A (ls.map Sl.val)) (hs : ∀ s ∈ ls, PlOk w s) :
    Calls Tryz.prog 23 #[.slice A n c] w (OvOut w (ovX ls)) := by
  have Hn := Lib.hid hn
  have HR := Lib.hid hr
  have HS := Lib.hid hs
  have HX := Lib.hid (show (ovX ls).length = ls.length by simp [ovX])
  have HXk := Lib.hid (fun (k : Nat) (hk : k < ls.length) => show (ovX ls)[k]? = some ls[k].xs by simp [ovX, hk])
  clear hn hr hs
  generalize ovX ls = xss at *
  go_enter Tryz.func23, Tryz.ntmps23
  go_wp2_with fail
  go_loopw [4, 5] (fun v i wr => ∃ k : Nat, k ≤ n ∧ i = .int .i64 k ∧ Hid ((xss.take k).all (fun xs => decide (prE xs = 0)) = true) ∧ Hid (wr.ownsRow w.heap.size 79 2 v (overP (xss.take k).flatten).length (prps (overP (xss.take k).flatten))) ∧ Ext w wr) (fun _ i _ => n - (intOf i).toNat)
  case atStart => exact ⟨0, Nat.zero_le _, rfl, Lib.hid (by simp), Lib.hid (by rw [List.take_zero]; exact World.ownsRow_nil _ _ _ _), Ext.refl _⟩
  case round =>
    obtain ⟨k, hk, rfl, HA, HOwn, e1⟩ := hrel
    by_cases hlt : k < n
    · have l1 : k < ls.length := by rw [← Hn.out]; exact hlt
      have l2 : k < xss.length := by rw [HX.out]; exact l1
      obtain ⟨b1, o1, rfl, hb1, f0⟩ := rd_sl (HR.out.ext e1 (Nat.le_refl _)) l1
      have HF := Lib.hid (fun W (hW : Ext w W) => rdsl_cell (HR.out.ext hW (Nat.le_refl _)) l1)
      have hs := HS.out ls[k] (List.getElem_mem l1)
      have HXe := Lib.hid (show xss[k] = ls[k].xs by have := HXk.out k l1; rw [List.getElem?_eq_getElem l2] at this; exact Option.some.inj this)
      have HPl := Lib.hid (pre_len HA.out)
      have HBad := Lib.hid (fun h => ov_bad (ls := xss) l2 h)
      have HT := Lib.hid (show xss.take (k + 1) = xss.take k ++ [xss[k]] from List.take_succ_eq_append_getElem l2)
      generalize xss[k] = ys at *
      generalize ls[k] = s at *
      obtain ⟨sA, sn, sc, sx⟩ := s
      obtain ⟨hs1, hs2, hs3, hs4⟩ := hs
      dsimp only at f0 hs1 hs2 hs3 hs4 HXe HF
      obtain rfl : ys = sx := HXe.out
      have HP := Lib.hid (fun W (hW : Ext w W) => rprops_any W sA sn sc ys hs1 (by omega) (Rd.at hs2 hW (Nat.le_refl _)) hs3)
      have HS1 := Lib.hid hs1
      have HS2 := Lib.hid hs2
      clear hs1 hs2 hs3 hs4 HS
      rcases prE_or ys with hpe | hpe
      · rw [hpe] at HP
        have HLy := Lib.hid (show ys.length ≤ 8 from prE_len hpe)
        have HAk := Lib.hid (show (xss.take (k + 1)).all (fun xs => decide (prE xs = 0)) = true by rw [HT.out, List.all_append, HA.out]; simp [hpe])
        have HTf := Lib.hid (show (xss.take (k + 1)).flatten = (xss.take k).flatten ++ ys by rw [HT.out]; simp)
        clear HA HT HBad hpe HX HXk
        generalize (xss.take k).flatten = pre at *
        go_upto_region 5 with fail
        go_wp2_with fail
        refine (HP.out _ e1).mono ?_
        rintro e w2 ⟨rfl, e2⟩
        have e12 : Ext w w2 := e1.trans e2
        have HO2 := Lib.hid (own_ext HOwn.out e2)
        clear HOwn e1 e2 f0 HP
        go_wp2_with fail
        go_loopw [4, 6] (fun v i wr => ∃ j : Nat, j ≤ sn ∧ i = .int .i64 j ∧ Hid (wr.ownsRow w.heap.size 79 2 v (overP (pre ++ ys.take j)).length (prps (overP (pre ++ ys.take j)))) ∧ Ext w wr) (fun _ i _ => sn - (intOf i).toNat)
        case atStart => exact ⟨0, Nat.zero_le _, rfl, Lib.hid (by rw [List.take_zero, List.append_nil]; exact HO2.out), e12⟩
        case round =>
          clear HO2 e12
          obtain ⟨j, hj, rfl, HOw, e3⟩ := hrel
          have f0 := HF.out _ e3
          have hol : (overP (pre ++ ys.take j)).length ≤ 100000 := by
            have h1 := overP_len (pre ++ ys.take j)
            have h2 := HPl.out
            have h3 := HLy.out
            simp only [List.length_append, List.length_take] at h1
            omega
          have HOl := Lib.hid hol
          clear hol
          have hsn : sn ≤ 8 := by rw [HS1.out]; exact HLy.out
          by_cases hlj : j < sn
          · have l3 : j < ys.length := by rw [← HS1.out]; exact hlj
            obtain ⟨b2, o2, rfl, _, _, g0, g1⟩ := rd_prp (Rd.at HS2.out e3 (Nat.le_refl _)) l3
            have HT2 := Lib.hid (show overP (pre ++ ys.take (j + 1)) = putP (overP (pre ++ ys.take j)) ys[j] by rw [List.take_succ_eq_append_getElem l3, ← List.append_assoc, overP_snoc])
            have HSo := Lib.hid (overP_sorted (pre ++ ys.take j))
            generalize overP (pre ++ ys.take j) = out at *
            generalize ys[j] = y at *
            obtain ⟨yn, yv⟩ := y
            dsimp only at g0 g1
            obtain ⟨A3, c3, rfl, _, _, _⟩ := own_form HOw.out
            have HPt := Lib.hid (rpput_any wr A3 out.length c3 out rfl HOl.out ((Rd.of_own HOw.out).more (Nat.zero_le _) (Nat.le_refl _)) ⟨yn, yv⟩)
            have HEq := Lib.hid (show rputL ⟨yn, yv⟩ out = putP out ⟨yn, yv⟩ from rfold_end _ _ HSo.out)
            go_wp2_with fail
            refine HPt.out.mono ?_
            rintro e w4 ⟨v4, rfl, hown4, e4⟩
            have HO4 := Lib.hid (own_lower hown4 e3.size)
            have e34 : Ext w w4 := e3.trans e4
            clear hown4 e3 e4
            go_wp2_with fail
            go_roundw
            case rel =>
              refine ⟨j + 1, by omega, by go_num, Lib.hid ?_, e34⟩
              rw [HT2.out, ← HEq.out]
              exact HO4.out
            case measure => simp [intOf]; omega
          · obtain rfl : j = sn := by omega
            have ht : ys.take j = ys := List.take_of_length_le (by rw [HS1.out]; exact Nat.le_refl _)
            rw [ht] at HOw
            go_wp2_with fail
            go_roundw
            case rel =>
              refine ⟨k + 1, by omega, by go_num, HAk, Lib.hid ?_, e3⟩
              rw [HTf.out]
              exact HOw.out
            case measure => simp [intOf]; omega
      · have hE := HBad.out (by rw [hpe]; decide)
        have HE := Lib.hid hE
        clear hE
        rw [hpe] at HP
        go_upto_region 5 with fail
        go_wp2_with fail
        refine (HP.out _ e1).mono ?_
        rintro e w2 ⟨rfl, e2⟩
        go_wp2_with fail
        go_ret2
        exact ovOut_none HE.out (by decide) (e1.trans e2)
    · obtain rfl : k = n := by omega
      have ht : xss.take k = xss := List.take_of_length_le (by rw [HX.out, ← Hn.out]; exact Nat.le_refl _)
      rw [ht] at HA HOwn
      have HE := Lib.hid (ov_end HA.out)
      have HL := Lib.hid (show ovL xss = if ovE xss = 0 then overP xss.flatten else [] from rfl)
      have HPl := Lib.hid (show (overP xss.flatten).length ≤ 100000 by
        have h1 := overP_len xss.flatten
        have h2 := all_len HA.out
        have h3 : xss.length = k := by rw [HX.out, ← Hn.out]
        omega)
      clear HA ht HX HXk
      obtain ⟨A3, c3, rfl, _, _, _⟩ := own_form HOwn.out
      by_cases h8 : 8 < (overP xss.flatten).length
      · have hE := HE.out
        rw [if_pos h8] at hE
        have HE3 := Lib.hid hE
        clear hE
        generalize (overP xss.flatten).length = m at *
        go_wp2_with fail
        go_ret2
        exact ovOut_none HE3.out (by decide) e1
      · have hE := HE.out
        rw [if_neg h8] at hE
        have hL := HL.out
        rw [hE, if_pos rfl] at hL
        have HE3 := Lib.hid hE
        have HL3 := Lib.hid hL
        clear hE hL
        generalize overP xss.flatten = F at *
        go_wp2_with fail
        go_ret2
        refine ⟨_, by rw [HE3.out]; rfl, ?_, e1⟩
        rw [HL3.out]
        exact HOwn.out
end Go.Proofs.YtmecjjmlccdppaaGreatDoor
/-
  DERIVED: THE SHELF's CONTRACTS AT THIS DUMP, IN PLAIN WORDS (tools/lay-plain.mjs out of 'YtmecjjmlccdppaaGreatDoorIterA.lean', which tools/lay-shelf.mjs wrote): THE SAME DECLARATIONS UNDER THE SAME NAMES: 'import', 'namespace', 'open', 'def', 'theorem' AND NOTHING ELSE: no command of the shelf's: FOR A HAND-IN. Each laying: the table of numbers ('.._ren') and one theorem, a field a fact of the dump's own or the kernel's comparison; each contract: ONE APPLICATION.
-/
namespace Go.Proofs
open Go.Shelf
def Tryz.keys82_ren : Go.Shelf.Ren := ⟨fun | 7 => 82 | 10 => 112 | n => n, fun | 23 => 139 | 26 => 9 | 3 => 9 | 28 => 143 | 0 => 0 | 27 => 142 | 33 => 69 | 4 => 4 | n => n, fun | n => n⟩
theorem Tryz.keys82 : Go.Proofs.SlLaysZ.n7 Tryz.prog Tryz.keys82_ren := {
  mixed := by kernel_rfl
  f7 := ⟨Tryz.f82.name, by decide, Tryz.func82.trans (congrArg some (by kernel_rfl))⟩
  f10 := ⟨Tryz.f112.name, by decide, Tryz.func112.trans (congrArg some (by kernel_rfl))⟩
  t0 := Tryz.underlying0
  a0 := Tryz.isAgg0
  z0 := Tryz.sizeOf0
  v0 := Tryz.zeroValue0
  t4 := Tryz.underlying4
  a4 := Tryz.isAgg4
  z4 := Tryz.sizeOf4
  v4 := Tryz.zeroValue4
  t23 := Tryz.underlying139
  a23 := Tryz.isAgg139
  z23 := Tryz.sizeOf139
  v23 := Tryz.zeroValue139
  t26 := Tryz.underlying9
  a26 := Tryz.isAgg9
  z26 := Tryz.sizeOf9
  v26 := Tryz.zeroValue9
  t27 := Tryz.underlying142
  a27 := Tryz.isAgg142
  z27 := Tryz.sizeOf142
  v27 := Tryz.zeroValue142
  t28 := Tryz.underlying143
  a28 := Tryz.isAgg143
  z28 := Tryz.sizeOf143
  v28 := Tryz.zeroValue143
  t33 := Tryz.underlying69
  a33 := Tryz.isAgg69
  z33 := Tryz.sizeOf69
  v33 := Tryz.zeroValue69 }
def Tryz.sorted81_ren : Go.Shelf.Ren := ⟨fun | 6 => 81 | 8 => 110 | 9 => 111 | 11 => 128 | 13 => 130 | 12 => 129 | 23 => 149 | 24 => 150 | 14 => 140 | 15 => 141 | 16 => 142 | 17 => 143 | 18 => 144 | 19 => 145 | 20 => 146 | 21 => 147 | 22 => 148 | 25 => 157 | 26 => 158 | 27 => 159 | 28 => 160 | 29 => 161 | 30 => 162 | 31 => 165 | n => n, fun | 26 => 9 | 28 => 143 | 24 => 48 | 0 => 0 | 3 => 3 | 37 => 164 | 48 => 127 | 50 => 23 | 4 => 4 | 40 => 208 | 39 => 207 | 45 => 131 | 5 => 5 | 9 => 9 | 51 => 218 | 55 => 222 | 57 => 230 | 58 => 231 | 33 => 69 | n => n, fun | n => n⟩
theorem Tryz.sorted81 : Go.Proofs.SlLaysZ.n6 Tryz.prog Tryz.sorted81_ren := {
  mixed := by kernel_rfl
  f6 := ⟨Tryz.f81.name, by decide, Tryz.func81.trans (congrArg some (by kernel_rfl))⟩
  f8 := ⟨Tryz.f110.name, by decide, Tryz.func110.trans (congrArg some (by kernel_rfl))⟩
  f11 := ⟨Tryz.f128.name, by decide, Tryz.func128.trans (congrArg some (by kernel_rfl))⟩
  t0 := Tryz.underlying0
  a0 := Tryz.isAgg0
  z0 := Tryz.sizeOf0
  v0 := Tryz.zeroValue0
  t24 := Tryz.underlying48
  a24 := Tryz.isAgg48
  z24 := Tryz.sizeOf48
  v24 := Tryz.zeroValue48
  t26 := Tryz.underlying9
  a26 := Tryz.isAgg9
  z26 := Tryz.sizeOf9
  v26 := Tryz.zeroValue9
  t28 := Tryz.underlying143
  a28 := Tryz.isAgg143
  z28 := Tryz.sizeOf143
  v28 := Tryz.zeroValue143
  i26 := by kernel_rfl }
def Tryz.sort111_ren : Go.Shelf.Ren := ⟨fun | 6 => 111 | 8 => 130 | 9 => 129 | 19 => 149 | 20 => 150 | 21 => 140 | 22 => 141 | 23 => 142 | 24 => 143 | 25 => 144 | 26 => 145 | 27 => 146 | 28 => 147 | 29 => 148 | 36 => 157 | 31 => 158 | 32 => 159 | 37 => 160 | 38 => 161 | 39 => 162 | 41 => 165 | n => n, fun | 27 => 48 | 29 => 9 | 3 => 3 | 32 => 164 | 26 => 48 | 0 => 0 | 44 => 127 | 46 => 23 | 4 => 4 | 36 => 208 | 35 => 207 | 41 => 131 | 5 => 5 | 9 => 9 | 53 => 218 | 57 => 222 | 63 => 230 | 64 => 231 | n => n, fun | n => n⟩
theorem Tryz.sort111 : Go.Proofs.SlLaysM.n6 Tryz.prog Tryz.sort111_ren := {
  mixed := by kernel_rfl
  f6 := ⟨Tryz.f111.name, by decide, Tryz.func111.trans (congrArg some (by kernel_rfl))⟩
  f8 := Tryz.func130.trans (congrArg some (by kernel_rfl))
  f9 := ⟨Tryz.f129.name, by decide, Tryz.func129.trans (congrArg some (by kernel_rfl))⟩
  f19 := Tryz.func149.trans (congrArg some (by kernel_rfl))
  f20 := Tryz.func150.trans (congrArg some (by kernel_rfl))
  f21 := ⟨Tryz.f140.name, by decide, Tryz.func140.trans (congrArg some (by kernel_rfl))⟩
  f22 := ⟨Tryz.f141.name, by decide, Tryz.func141.trans (congrArg some (by kernel_rfl))⟩
  f23 := ⟨Tryz.f142.name, by decide, Tryz.func142.trans (congrArg some (by kernel_rfl))⟩
  f24 := ⟨Tryz.f143.name, by decide, Tryz.func143.trans (congrArg some (by kernel_rfl))⟩
  f25 := ⟨Tryz.f144.name, by decide, Tryz.func144.trans (congrArg some (by kernel_rfl))⟩
  f26 := ⟨Tryz.f145.name, by decide, Tryz.func145.trans (congrArg some (by kernel_rfl))⟩
  f27 := ⟨Tryz.f146.name, by decide, Tryz.func146.trans (congrArg some (by kernel_rfl))⟩
  f28 := ⟨Tryz.f147.name, by decide, Tryz.func147.trans (congrArg some (by kernel_rfl))⟩
  f29 := ⟨Tryz.f148.name, by decide, Tryz.func148.trans (congrArg some (by kernel_rfl))⟩
  f31 := Tryz.func158.trans (congrArg some (by kernel_rfl))
  f32 := Tryz.func159.trans (congrArg some (by kernel_rfl))
  f36 := ⟨Tryz.f157.name, by decide, Tryz.func157.trans (congrArg some (by kernel_rfl))⟩
  f37 := ⟨Tryz.f160.name, by decide, Tryz.func160.trans (congrArg some (by kernel_rfl))⟩
  f38 := ⟨Tryz.f161.name, by decide, Tryz.func161.trans (congrArg some (by kernel_rfl))⟩
  f39 := ⟨Tryz.f162.name, by decide, Tryz.func162.trans (congrArg some (by kernel_rfl))⟩
  f41 := ⟨Tryz.f165.name, by decide, Tryz.func165.trans (congrArg some (by kernel_rfl))⟩
  t0 := Tryz.underlying0
  a0 := Tryz.isAgg0
  z0 := Tryz.sizeOf0
  v0 := Tryz.zeroValue0
  t3 := Tryz.underlying3
  a3 := Tryz.isAgg3
  z3 := Tryz.sizeOf3
  v3 := Tryz.zeroValue3
  t4 := Tryz.underlying4
  a4 := Tryz.isAgg4
  z4 := Tryz.sizeOf4
  v4 := Tryz.zeroValue4
  t5 := Tryz.underlying5
  a5 := Tryz.isAgg5
  z5 := Tryz.sizeOf5
  v5 := Tryz.zeroValue5
  t9 := Tryz.underlying9
  a9 := Tryz.isAgg9
  z9 := Tryz.sizeOf9
  v9 := Tryz.zeroValue9
  t26 := Tryz.underlying48
  a26 := Tryz.isAgg48
  z26 := Tryz.sizeOf48
  v26 := Tryz.zeroValue48
  t27 := Tryz.underlying48
  a27 := Tryz.isAgg48
  z27 := Tryz.sizeOf48
  v27 := Tryz.zeroValue48
  t29 := Tryz.underlying9
  a29 := Tryz.isAgg9
  z29 := Tryz.sizeOf9
  v29 := Tryz.zeroValue9
  t32 := Tryz.underlying164
  a32 := Tryz.isAgg164
  z32 := Tryz.sizeOf164
  v32 := Tryz.zeroValue164
  t35 := Tryz.underlying207
  a35 := Tryz.isAgg207
  z35 := Tryz.sizeOf207
  v35 := Tryz.zeroValue207
  t36 := Tryz.underlying208
  a36 := Tryz.isAgg208
  z36 := Tryz.sizeOf208
  v36 := Tryz.zeroValue208
  t41 := Tryz.underlying131
  a41 := Tryz.isAgg131
  z41 := Tryz.sizeOf131
  v41 := Tryz.zeroValue131
  t44 := Tryz.underlying127
  a44 := Tryz.isAgg127
  z44 := Tryz.sizeOf127
  v44 := Tryz.zeroValue127
  t46 := Tryz.underlying23
  a46 := Tryz.isAgg23
  z46 := Tryz.sizeOf23
  v46 := Tryz.zeroValue23
  t53 := Tryz.underlying218
  a53 := Tryz.isAgg218
  z53 := Tryz.sizeOf218
  v53 := Tryz.zeroValue218
  t57 := Tryz.underlying222
  a57 := Tryz.isAgg222
  z57 := Tryz.sizeOf222
  v57 := Tryz.zeroValue222
  t63 := Tryz.underlying230
  a63 := Tryz.isAgg230
  z63 := Tryz.sizeOf230
  v63 := Tryz.zeroValue230
  t64 := Tryz.underlying231
  a64 := Tryz.isAgg231
  z64 := Tryz.sizeOf231
  v64 := Tryz.zeroValue231 }
end Go.Proofs
/- slices.Sorted over maps.Keys: the shelf's contracts at this program (by the kit's lay-iter): a new slice that holds the map's keys, sorted. -/
namespace Go.Proofs
open Go.RowKit Go.Maps Go.Sort Go.Shelf


theorem Tryz.sorts81 (m : Nat) : AnyZ.SortsIn Tryz.prog Tryz.sorted81_ren Fence.wide m :=
  ⟨fun blk off cap ss W hH hblk hsz => callsIn_wide.2 (AnyM.slices_Sort_string Tryz.sort111 blk off cap ss W hH hblk hsz),
   fun p cap W => callsIn_wide.2 (AnyM.slices_Sort_string_none Tryz.sort111 p cap W)⟩

theorem Tryz.maps_Keys_82 (mb : Option Nat) (W : World) : CallsIn Fence.wide 5 Tryz.prog 82 #[.map mb] W fun e w' => e = .returned (.func (.func 112) #[] #[.pointer (some ⟨W.heap.size, 0, none⟩)]) ∧ w' = W.alloc (.cells #[.map mb] 139) :=
  AnyZ.keys_in Tryz.keys82 Fence.wide 5 trivial rfl mb W

set_option maxHeartbeats 1000000 in
theorem Tryz.slices_Sorted_keys_81_82 {H : Type} (b nn : Nat) (D0 : DataW H) (R : Value → Option (DataW H × List MemPlace)) (w : World) (hown : w.ownsMap Tryz.prog 9 R b nn D0) (hmax : Maps.size D0 ≤ maxLen) (hbytes : Maps.size D0 * 16 ≤ 140737488355328) :
    CallsIn Fence.wide 5 Tryz.prog 81 #[.func (.func 112) #[] #[.pointer (some ⟨w.heap.size, 0, none⟩)]] (w.alloc (.cells #[.map (some b)] 139)) fun e w' => ∃ (v : Value) (ss : List (List UInt8)), e = .returned v ∧ ss.Perm (strKeys D0) ∧
      w'.ownsRow (w.alloc (.cells #[.map (some b)] 139)).heap.size 9 1 v ss.length ((ss.mergeSort (fun x y => decide (x ≤ y))).map encStr) ∧ (v = .slice none 0 0 ↔ ss = []) ∧ Below (w.alloc (.cells #[.map (some b)] 139)).heap.size (w.alloc (.cells #[.map (some b)] 139)) w' := by
  have hbl := hown.lt
  have hseq : SeqGives Fence.wide 2 Tryz.prog 112 #[.pointer (some ⟨w.heap.size, 0, none⟩)] encStr (fun ss => ss.Perm (strKeys D0)) (Maps.size D0) (w.alloc (.cells #[.map (some b)] 139)) :=
    AnyZ.keys_gives (ρ := Tryz.keys82_ren) { Tryz.keys82 with } Fence.wide _ trivial rfl (by omega) w.heap.size b nn D0 _ (by simp) (by simp) (by
      obtain ⟨es, clock, hb, Ft, hs, hD⟩ := hown
      exact ⟨es, clock, (Below.heap_alloc _ _ b hbl).trans hb, Ft, hs, hD⟩)
  exact AnyZ.sorted_in Tryz.sorted81 Fence.wide 5 trivial trivial trivial trivial rfl (by omega) (Tryz.sorts81 _) (enters_of Tryz.func111 (by kernel_rfl) rfl) 112 #[.pointer (some ⟨w.heap.size, 0, none⟩)] trivial (enters_of Tryz.func112 (by kernel_rfl) rfl) _ _ hmax hbytes _ hseq

set_option maxHeartbeats 1000000 in
theorem Tryz.slices_Sorted_keys_nil_81_82 (w : World) :
    CallsIn Fence.wide 5 Tryz.prog 81 #[.func (.func 112) #[] #[.pointer (some ⟨w.heap.size, 0, none⟩)]] (w.alloc (.cells #[.map none] 139)) fun e w' => ∃ (v : Value) (ss : List (List UInt8)), e = .returned v ∧ ss = [] ∧
      w'.ownsRow (w.alloc (.cells #[.map none] 139)).heap.size 9 1 v ss.length ((ss.mergeSort (fun x y => decide (x ≤ y))).map encStr) ∧ (v = .slice none 0 0 ↔ ss = []) ∧ Below (w.alloc (.cells #[.map none] 139)).heap.size (w.alloc (.cells #[.map none] 139)) w' := by
  have hseq : SeqGives Fence.wide 2 Tryz.prog 112 #[.pointer (some ⟨w.heap.size, 0, none⟩)] encStr (fun ss : List (List UInt8) => ss = []) 0 (w.alloc (.cells #[.map none] 139)) :=
    AnyZ.keys_gives_nil (ρ := Tryz.keys82_ren) { Tryz.keys82 with } Fence.wide _ trivial rfl w.heap.size _ (by simp) (by simp)
  exact AnyZ.sorted_in Tryz.sorted81 Fence.wide 5 trivial trivial trivial trivial rfl (by omega) (Tryz.sorts81 _) (enters_of Tryz.func111 (by kernel_rfl) rfl) 112 #[.pointer (some ⟨w.heap.size, 0, none⟩)] trivial (enters_of Tryz.func112 (by kernel_rfl) rfl) _ 0 (Nat.zero_le _) (by omega) _ hseq



end Go.Proofs
/- A map of strings as a list of properties that rises; keys sorted. The plain law. -/
namespace Go.Proofs.YtmecjjmlccdppaaGreatDoor
open Go.RowKit Go.Maps Go.Sort Go.Shelf
set_option linter.unusedVariables false

def entP (p : Prp) : Lit × DataW Unit := (.string p.name.data.toList, .lit (.string p.value.data.toList))
def dmP (L : List Prp) : DataW Unit := .map (L.map entP)
theorem before_less : ∀ x y : List UInt8, bytesBefore x y = Op.bytesLess x y
  | [], [] => rfl
  | [], _ :: _ => rfl
  | _ :: _, [] => rfl
  | a :: x, b :: y => by
    show (decide (a < b) || (a == b && bytesBefore x y)) = (decide (a < b) || (a == b && Op.bytesLess x y))
    rw [before_less x y]
theorem insP_map (p : Prp) : ∀ l : List Prp, DataW.insert (entP p) (l.map entP) = (insP p l).map entP
  | [] => rfl
  | y :: r => by
    rw [List.map_cons, DataW.insert, insP]
    have hb : (entP p).1.before (entP y).1 = lessB p.name y.name := by
      show bytesBefore p.name.data.toList y.name.data.toList = _
      rw [before_less, lessB, Lib.toList_data, Lib.toList_data]
    rw [hb, insP_map p r]
    split <;> rfl
theorem dmP_put (L : List Prp) (p : Prp) : (dmP L).put (.string p.name.data.toList) (.lit (.string p.value.data.toList)) = dmP (putP L p) := by
  show DataW.map (DataW.insert (entP p) ((L.map entP).filter fun q => !q.1.sameKey (.string p.name.data.toList))) = DataW.map ((insP p (L.filter fun y => !sameN p y)).map entP)
  rw [List.filter_map, ← insP_map]
  congr 4
  funext y
  show (!(y.name.data.toList == p.name.data.toList)) = !sameN p y
  rw [sameN, Lib.toList_data, Lib.toList_data]
theorem dmP_size (L : List Prp) : Maps.size (dmP L) = L.length := by rw [dmP, Maps.size_eq, List.length_map]
theorem dmP_keys (L : List Prp) : strKeys (dmP L) = L.map fun p => p.name.data.toList := by
  simp [dmP, strKeys, entP, Function.comp_def, strOf]
theorem dmP_at : ∀ (L : List Prp) (_ : SortP L) (k : Nat) (h : k < L.length), (dmP L).atKey (.string L[k].name.data.toList) (.lit (.string [])) = .lit (.string L[k].value.data.toList)
  | y :: r, hS, 0, h => by simp [dmP, DataW.atKey, entP, Lit.sameKey]
  | y :: r, hS, k + 1, h => by
    have hS' := List.pairwise_cons.1 hS
    have hk : k < r.length := by simpa using h
    have hne : (y.name.data.toList == r[k].name.data.toList) = false := by
      have h1 := (lessB_iff _ _).1 (hS'.1 r[k] (List.getElem_mem hk))
      rw [Lib.toList_data, Lib.toList_data] at h1
      rw [beq_eq_false_iff_ne]
      exact Std.ne_of_lt h1
    have ih := dmP_at r hS'.2 k hk
    simp only [dmP, DataW.atKey, List.map_cons, List.getElem_cons_succ] at ih ⊢
    rw [List.find?_cons_of_neg (by
      show ¬ Lit.sameKey (.string y.name.data.toList) (.string r[k].name.data.toList) = true
      simp [Lit.sameKey, hne])]
    exact ih
theorem keys_sorted (L : List Prp) (hS : SortP L) (ss : List (List UInt8)) (hp : ss.Perm (strKeys (dmP L))) : ss.mergeSort (fun x y => decide (x ≤ y)) = L.map fun p => p.name.data.toList := by
  rw [dmP_keys] at hp
  have h1 : (ss.mergeSort (fun x y => decide (x ≤ y))).Perm (L.map fun p => p.name.data.toList) := (List.mergeSort_perm _ _).trans hp
  have h2 : (ss.mergeSort (fun x y => decide (x ≤ y))).Pairwise (fun x y => x ≤ y) := by
    have := List.pairwise_mergeSort (le := fun x y : List UInt8 => decide (x ≤ y)) (fun a b c hab hbc => by
      simp only [decide_eq_true_eq] at hab hbc ⊢
      exact Std.le_trans hab hbc) (fun a b => by
      simp only [Bool.or_eq_true, decide_eq_true_eq]
      exact Std.le_total) ss
    exact this.imp fun h => by simpa using h
  have h3 : (L.map fun p => p.name.data.toList).Pairwise (fun x y => x ≤ y) := by
    rw [List.pairwise_map]
    exact hS.imp fun h => by
      have := (lessB_iff _ _).1 h
      rw [Lib.toList_data, Lib.toList_data] at this
      exact Std.le_of_lt this
  exact List.Perm.eq_of_pairwise (fun a b _ _ hab hba => Std.le_antisymm hab hba) h2 h3 h1
theorem ownsMap_ext {H : Type} {P : Program} {k : TypeId} {R : Value → Option (DataW H × List MemPlace)} {w w' : World} {b n : Nat} {D : DataW H} (h : w.ownsMap P k R b n D) (e : Ext w w') : w'.ownsMap P k R b n D := by
  have hlt := h.lt
  obtain ⟨es, clock, hb, hrest⟩ := h
  exact ⟨es, clock, (e.block b hlt).trans hb, hrest⟩
theorem ext_mapped {w0 w w' : World} {b : Nat} (e : Ext w0 w) (g : w.grownBy w' (some b)) (hb : w0.heap.size ≤ b) : Ext w0 w' := below_grown e g e.size (.inr ⟨_, rfl, hb⟩)
theorem data_str (s : ByteArray) : (⟨s.data.toList.toArray⟩ : ByteArray) = s := by cases s; simp
end Go.Proofs.YtmecjjmlccdppaaGreatDoor
/- props.Over: the walk (a map of strings; its keys sorted). -/
namespace Go.Proofs.YtmecjjmlccdppaaGreatDoor
open Go.RowKit Go.Maps Go.Sort Go.Shelf
set_option linter.unusedVariables false
set_option linter.unusedSimpArgs false

theorem lawS : Keyed Tryz.prog 9 := string_keyed Tryz.underlying9
theorem zeroS0 (w : World) : (zeroValue 9).run Tryz.prog w = .ok (.string .empty) w := by kernel_rfl
abbrev MapO (w : World) (b n : Nat) (L : List Prp) : Prop := w.ownsMap Tryz.prog 9 (plainElem Tryz.prog 9) b n (dmP L)
theorem mapO_len {w : World} {b n : Nat} {L : List Prp} (h : MapO w b n L) (ty : TypeId) : (Builtin.len_ #[139] ty #[.map (some b)]).run Tryz.prog w = .ok (.int .i64 (L.length : Int)) w := by
  have h1 := h.len Tryz.underlying139 ty
  rw [dmP_size] at h1
  exact h1
set_option maxRecDepth 100000 in
theorem mapO_look {w : World} {b n : Nat} {L : List Prp} (h : MapO w b n L) (hS : SortP L) (k : Nat) (hk : k < L.length) (hz : L[k].name.size ≤ maxLen) :
    (Instr.lookup 139 (.map (some b)) (.string L[k].name) false).run Tryz.prog w = .ok (.string L[k].value) w := by
  obtain ⟨v, ps, hrun, hv⟩ := h.lookup lawS Tryz.underlying139 (zeroS0 w) (plainElem_string Tryz.underlying9 (Nat.zero_le _)) (Go.WideMaps.keyOf_string_mk Tryz.underlying9 hz)
  obtain ⟨s, rfl, he, _⟩ := plainElem_string_inv Tryz.underlying9 hv
  have h2 : (dmP L).atKey (.string L[k].name.data.toList) (.lit (.string ByteArray.empty.data.toList)) = .lit (.string s.data.toList) := congrArg Prod.fst he
  have h3 := dmP_at L hS k hk
  rw [show ByteArray.empty.data.toList = ([] : List UInt8) from rfl, h3] at h2
  injection h2 with h2
  injection h2 with h2
  rw [hrun, show s = L[k].value from (data_str s).symm.trans ((congrArg (fun l : List UInt8 => ByteArray.mk l.toArray) h2.symm).trans (data_str _))]

def namesV (L : List Prp) : List Value := L.map fun p => Value.string p.name
theorem namesV_enc (L : List Prp) : (L.map fun p => p.name.data.toList).map encStr = namesV L := by
  rw [namesV, List.map_map]
  apply List.map_congr_left
  intro p _
  show Value.string ⟨p.name.data.toList.toArray⟩ = _
  rw [data_str]
theorem rd_names {w : World} {lo hi : Nat} {A : Option Addr} {L : List Prp} (h : Rd w lo hi A (namesV L)) {k : Nat} (hk : k < L.length) :
    ∃ b o, A = some ⟨b, o, none⟩ ∧ b < hi ∧ w.cell? ⟨b, o + k, none⟩ = some (.string L[k].name) := by
  obtain ⟨b, o, h1, h2, h3, h4⟩ := h (fun e => by have := congrArg List.length e; simp [namesV] at this; subst this; simp at hk)
  exact ⟨b, o, h1, h3, h4 k _ (by simp [namesV, hk])⟩
/-- the map's keys, sorted: both calls -/
theorem keys_calls (wr : World) (b m : Nat) (L : List Prp) (hS : SortP L) (h8 : L.length ≤ 100000000) (hM : MapO wr b m L) :
    Calls Tryz.prog 82 #[.map (some b)] wr fun e w1 => ∃ vf, e = .returned vf ∧ Ext wr w1 ∧ Calls Tryz.prog 81 #[vf] w1 fun e w2 => ∃ v, e = .returned v ∧ w2.ownsRow wr.heap.size 9 1 v L.length (namesV L) ∧ Ext wr w2 := by
  refine ((callsIn_wide (n := 5)).1 (Tryz.maps_Keys_82 _ _)).mono ?_
  rintro e w1 ⟨rfl, rfl⟩
  refine ⟨_, rfl, (Ext.refl _).alloc _, ?_⟩
  refine ((callsIn_wide (n := 5)).1 (Tryz.slices_Sorted_keys_81_82 b m (dmP L) _ wr hM (by rw [dmP_size]; simp only [maxLen]; omega) (by rw [dmP_size]; omega))).mono ?_
  rintro e w2 ⟨v, ss, rfl, hp, hrow, _, hb⟩
  refine ⟨v, rfl, ?_, ((Ext.refl wr).alloc _).trans hb⟩
  have hl : ss.length = L.length := by rw [hp.length_eq, dmP_keys, List.length_map]
  rw [hl, keys_sorted L hS ss hp, namesV_enc] at hrow
  exact own_lower hrow (by simp)

set_option maxRecDepth 100000 in
set_option maxHeartbeats 8000000 in
theorem over_any (w : World) (A : Option Addr) (n c : Nat) (ls : List (Sl Prp)) (hn : n = ls.length) (hN : n ≤ 1000) (hr : Rd w 0 w.heap.size A (ls.map Sl.val)) (hs : ∀ s ∈ ls, PlOk w s) :
    Calls Tryz.prog 43 #[.slice A n c] w (OvOut w (ovX ls)) := by
  have hmm := @run_makeMap Tryz.prog
  have Hn := Lib.hid hn
  have HR := Lib.hid hr
  have HS := Lib.hid hs
  have HX := Lib.hid (show (ovX ls).length = ls.length by simp [ovX])
  have HXk := Lib.hid (fun (k : Nat) (hk : k < ls.length) => show (ovX ls)[k]? = some ls[k].xs by simp [ovX, hk])
  clear hn hr hs
  generalize ovX ls = xss at *
  go_enter Tryz.func43, Tryz.ntmps43
  go_upto_region 3 with fail
  have HM0 := Lib.hid (show MapO (w.alloc (.map #[] 0)) w.heap.size 0 [] from World.ownsMap_made _ _ _ _)
  have E0 : Ext w (w.alloc (.map #[] 0)) := (Ext.refl w).alloc _
  generalize World.alloc w _ = w1 at *
  go_loopw [16] (fun i wr => ∃ k : Nat, k ≤ n ∧ i = .int .i64 k ∧ Hid ((xss.take k).all (fun xs => decide (prE xs = 0)) = true) ∧ (∃ m, m ≤ 8 * k ∧ Hid (MapO wr w.heap.size m (overP (xss.take k).flatten))) ∧ Ext w wr) (fun i _ => n - (intOf i).toNat)
  case atStart => exact ⟨0, Nat.zero_le _, rfl, Lib.hid (by simp), ⟨0, Nat.zero_le _, Lib.hid (by rw [List.take_zero]; exact HM0.out)⟩, E0⟩
  case round =>
    clear HM0 E0
    obtain ⟨k, hk, rfl, HA, ⟨m, hm, HMp⟩, e1⟩ := hrel
    by_cases hlt : k < n
    · have l1 : k < ls.length := by rw [← Hn.out]; exact hlt
      have l2 : k < xss.length := by rw [HX.out]; exact l1
      obtain ⟨b1, o1, rfl, hb1, f0⟩ := rd_sl (HR.out.ext e1 (Nat.le_refl _)) l1
      have hs := HS.out ls[k] (List.getElem_mem l1)
      have HXe := Lib.hid (show xss[k] = ls[k].xs by have := HXk.out k l1; rw [List.getElem?_eq_getElem l2] at this; exact Option.some.inj this)
      have HBad := Lib.hid (fun h => ov_bad (ls := xss) l2 h)
      have HT := Lib.hid (show xss.take (k + 1) = xss.take k ++ [xss[k]] from List.take_succ_eq_append_getElem l2)
      generalize xss[k] = ys at *
      generalize ls[k] = s at *
      obtain ⟨sA, sn, sc, sx⟩ := s
      obtain ⟨hs1, hs2, hs3, hs4⟩ := hs
      dsimp only at f0 hs1 hs2 hs3 hs4 HXe
      obtain rfl : ys = sx := HXe.out
      have HP := Lib.hid (fun W (hW : Ext w W) => pcheck_any W sA sn sc ys hs1 (by omega) (Rd.at hs2 hW (Nat.le_refl _)) hs3)
      have HS1 := Lib.hid hs1
      have HS2 := Lib.hid hs2
      have HS3 := Lib.hid hs3
      clear hs1 hs2 hs3 hs4 HS HXe
      rcases prE_or ys with hpe | hpe
      · rw [hpe] at HP
        have HLy := Lib.hid (show ys.length ≤ 8 from prE_len hpe)
        have HAk := Lib.hid (show (xss.take (k + 1)).all (fun xs => decide (prE xs = 0)) = true by rw [HT.out, List.all_append, HA.out]; simp [hpe])
        have HTf := Lib.hid (show (xss.take (k + 1)).flatten = (xss.take k).flatten ++ ys by rw [HT.out]; simp)
        clear HA HT HBad hpe HX HXk
        generalize (xss.take k).flatten = pre at *
        go_upto_region 5 with fail
        go_wp2_with fail
        refine (HP.out _ e1).mono ?_
        rintro e w2 ⟨rfl, e2⟩
        have e12 : Ext w w2 := e1.trans e2
        have HM2 := Lib.hid (ownsMap_ext HMp.out e2)
        clear HMp e1 e2 f0 HP
        go_upto_region 9 with fail
        go_loopw [27] (fun i wr => ∃ j : Nat, j ≤ sn ∧ i = .int .i64 j ∧ (∃ m, m ≤ 8 * k + j ∧ Hid (MapO wr w.heap.size m (overP (pre ++ ys.take j)))) ∧ Ext w wr) (fun i _ => sn - (intOf i).toNat)
        case atStart => exact ⟨0, Nat.zero_le _, rfl, ⟨m, hm, Lib.hid (by rw [List.take_zero, List.append_nil]; exact HM2.out)⟩, e12⟩
        case round =>
          clear HM2 e12 hm
          obtain ⟨j, hj, rfl, ⟨m, hm, HM⟩, e3⟩ := hrel
          have hsn : sn ≤ 8 := by rw [HS1.out]; exact HLy.out
          by_cases hlj : j < sn
          · have l3 : j < ys.length := by rw [← HS1.out]; exact hlj
            obtain ⟨b2, o2, rfl, _, _, g0, g1⟩ := rd_prp (Rd.at HS2.out e3 (Nat.le_refl _)) l3
            have HT2 := Lib.hid (show overP (pre ++ ys.take (j + 1)) = putP (overP (pre ++ ys.take j)) ys[j] by rw [List.take_succ_eq_append_getElem l3, ← List.append_assoc, overP_snoc])
            have HW := Lib.hid (HS3.out _ (List.getElem_mem l3))
            generalize overP (pre ++ ys.take j) = out at *
            generalize ys[j] = y at *
            obtain ⟨yn, yv⟩ := y
            dsimp only at g0 g1 HW
            go_upto_region 11 with fail
            generalize hw3 : World.alloc wr _ = w3; obtain ⟨ew3, zw3, Gw3⟩ := box_cells hw3; have gw3_0 := Gw3 0 _ rfl; have gw3_1 := Gw3 1 _ rfl; have Zw3 := Lib.hid zw3; clear zw3 hw3 Gw3; have rw3 := Ext.refl w3
            have E3 : Ext w w3 := e3.trans ew3
            have HM3 := Lib.hid (ownsMap_ext HM.out ew3)
            have q0 := gw3_0 w3 (Ext.refl _)
            have q1 := gw3_1 w3 (Ext.refl _)
            clear gw3_0 gw3_1 rw3 ew3 HM Zw3
            go_wp2_with
              (at_mapUpdate
               refine wpList_mapUpdate_own _ rfl _ _ _ 139 rfl 9 9 lawS Tryz.underlying139 _ w.heap.size m _ rfl HM3.out (by simp only [maxLen]; omega) _ _ _ rfl rfl (Go.WideMaps.keyOf_string_mk Tryz.underlying9 (by simp only [maxLen]; exact HW.out.1)) _ [] (plainElem_string Tryz.underlying9 (by simp only [maxLen]; exact HW.out.2)) ?_
               intro w4 hm4 hg4)
            have e4 : Ext w w4 := ext_mapped E3 hg4 (Nat.le_refl _)
            have hm5 : MapO w4 w.heap.size (m + 1) (putP out ⟨yn, yv⟩) := by
              have h := dmP_put out ⟨yn, yv⟩
              show w4.ownsMap _ _ _ _ _ (dmP _)
              rw [← h]
              exact hm4
            have HM5 := Lib.hid hm5
            clear hm4 hg4 hm5 e3 E3
            go_wp2_with fail
            go_roundw
            case rel =>
              refine ⟨j + 1, by omega, by go_num, ⟨m + 1, by omega, Lib.hid ?_⟩, e4⟩
              rw [HT2.out]
              exact HM5.out
            case measure => simp [intOf]; omega
          · obtain rfl : j = sn := by omega
            have ht : ys.take j = ys := List.take_of_length_le (by rw [HS1.out]; exact Nat.le_refl _)
            rw [ht] at HM
            go_wp2_with fail
            go_roundw
            case rel =>
              refine ⟨k + 1, by omega, by go_num, HAk, ⟨m, by omega, Lib.hid ?_⟩, e3⟩
              rw [HTf.out]
              exact HM.out
            case measure => simp [intOf]; omega
      · have hE := HBad.out (by rw [hpe]; decide)
        have HE := Lib.hid hE
        clear hE
        rw [hpe] at HP
        go_upto_region 5 with fail
        go_wp2_with fail
        refine (HP.out _ e1).mono ?_
        rintro e w2 ⟨rfl, e2⟩
        go_wp2_with fail
        go_ret2
        exact ovOut_none HE.out (by decide) (e1.trans e2)
    · obtain rfl : k = n := by omega
      have ht : xss.take k = xss := List.take_of_length_le (by rw [HX.out, ← Hn.out]; exact Nat.le_refl _)
      rw [ht] at HA HMp
      have HE := Lib.hid (ov_end HA.out)
      have HL := Lib.hid (show ovL xss = if ovE xss = 0 then overP xss.flatten else [] from rfl)
      have HPl := Lib.hid (show (overP xss.flatten).length ≤ 100000 by
        have h1 := overP_len xss.flatten
        have h2 := all_len HA.out
        have h3 : xss.length = k := by rw [HX.out, ← Hn.out]
        omega)
      have HSo := Lib.hid (overP_sorted xss.flatten)
      have HNm := Lib.hid (show ∀ p ∈ overP xss.flatten, p.name.size ≤ maxLen from fun p hp => by
        obtain ⟨l, hl, hpl⟩ := List.mem_flatten.1 (mem_overP hp)
        obtain ⟨q, hq, he⟩ := List.getElem_of_mem hl
        have hq2 : q < ls.length := by rw [← HX.out]; exact hq
        have h5 := HXk.out q hq2
        rw [List.getElem?_eq_getElem hq] at h5
        have h6 := Option.some.inj h5
        rw [he] at h6
        rw [h6] at hpl
        exact ((HS.out ls[q] (List.getElem_mem hq2)).wf p hpl).1)
      clear HA ht HX HXk HS HR
      have hlen := mapO_len HMp.out
      by_cases h8 : 8 < (overP xss.flatten).length
      · have hE := HE.out
        rw [if_pos h8] at hE
        have HE3 := Lib.hid hE
        clear hE HNm HSo HPl
        generalize hmm2 : (overP xss.flatten).length = q at *
        clear hmm2
        go_wp2_with fail
        go_ret2
        exact ovOut_none HE3.out (by decide) e1
      · have hE := HE.out
        rw [if_neg h8] at hE
        have hL := HL.out
        rw [hE, if_pos rfl] at hL
        have HE3 := Lib.hid hE
        have HL3 := Lib.hid hL
        clear hE hL
        generalize overP xss.flatten = L at *
        obtain ⟨q, hq⟩ : ∃ q, q = L.length := ⟨_, rfl⟩
        rw [← hq] at hlen h8
        have HQ := Lib.hid hq
        have HK := Lib.hid (keys_calls wr w.heap.size m L HSo.out (by omega) HMp.out)
        clear hq
        go_upto_region 17 with fail
        go_wp2_with fail
        refine HK.out.mono ?_
        rintro e w2 ⟨vf, rfl, e2, hK2⟩
        go_wp2_with fail
        refine hK2.mono ?_
        rintro e w3 ⟨v3, rfl, hown3, e3⟩
        obtain ⟨A3, c3, rfl, _, _, _⟩ := own_form hown3
        have HR3 := Lib.hid ((Rd.of_own hown3).more (Nat.zero_le _) (Nat.le_refl _))
        have HM3 := Lib.hid (ownsMap_ext HMp.out e3)
        have E3 := Lib.hid (e1.trans e3)
        clear hK2 e2 hown3 e1 e3 hlen HMp HK
        go_upto_region 18 with fail
        obtain ⟨i0, hi0, hz0, hz1, hz2⟩ := info_parts infoP
        have hq8 : L.length ≤ 8 := by rw [← HQ.out]; omega
        clear HE HL h8 HQ HPl
        go_loopw [10, 45] (fun v i wx => ∃ j : Nat, j ≤ L.length ∧ i = .int .i64 j ∧ Hid (wx.ownsRow w3.heap.size 79 2 v j (prps (L.take j))) ∧ Ext w3 wx) (fun _ i _ => L.length - (intOf i).toNat)
        case atStart => exact ⟨0, Nat.zero_le _, rfl, Lib.hid (by rw [List.take_zero]; exact World.ownsRow_nil _ _ _ _), Ext.refl _⟩
        case round =>
          obtain ⟨j, hj, rfl, HO, e5⟩ := hrel
          by_cases hlj : j < L.length
          · obtain ⟨b2, o2, rfl, _, g0⟩ := rd_names (HR3.out.ext e5 (Nat.le_refl _)) hlj
            have hlk := mapO_look (ownsMap_ext HM3.out e5) HSo.out j hlj (HNm.out _ (List.getElem_mem hlj))
            have HT := Lib.hid (show L.take (j + 1) = L.take j ++ [L[j]] from List.take_succ_eq_append_getElem hlj)
            generalize L[j] = y at *
            obtain ⟨yn, yv⟩ := y
            dsimp only at g0 hlk
            have HB := Lib.hid (show w3.heap.size ≤ (wr.alloc (.cells #[.string yn, .string yv] 79)).heap.size by have := e5.size; simp; omega)
            go_upto_region 20 with fail
            (iterate 60 (first | at_builtin | go_step))
            refine list_app _ rfl (.tmp 49) (.tmp 55) _ rfl 79 i0 _ 2 32 Tryz.underlying22 hi0 hz0 hz1 hz2 rfl (by omega) w3.heap.size _ j _ rfl (HO.out.alloc _) 0 _ _ 1 1 [.string yn, .string yv] rfl rfl
              ((rd_new _ _ _).more (Nat.zero_le _) (Nat.le_refl _)) (by simp [Value.oneCell']) (by simp only [maxLen]; omega) (by omega) HB.out ?_
            intro v7 w7 hown7 he7 _ _
            have e9 : Ext w3 w7 := he7 _ (e5.alloc _) (Nat.le_refl _)
            have HO7 := Lib.hid hown7
            clear he7 hown7 hlk
            go_wp2_with fail
            go_roundw
            case rel =>
              refine ⟨j + 1, by omega, by go_num, Lib.hid ?_, e9⟩
              have h := HO7.out
              rw [HT.out]
              simpa [prps, Prp.cells] using h
            case measure => simp [intOf]; omega
          · obtain rfl : j = L.length := by omega
            have h5 := HO.out
            rw [List.take_length] at h5
            have HO5 := Lib.hid h5
            clear h5
            have E5 := Lib.hid (E3.out.trans e5)
            go_wp2_with fail
            go_ret2
            refine ⟨_, by rw [HE3.out]; rfl, ?_, E5.out⟩
            rw [HL3.out]
            exact own_lower HO5.out E3.out.size
end Go.Proofs.YtmecjjmlccdppaaGreatDoor
