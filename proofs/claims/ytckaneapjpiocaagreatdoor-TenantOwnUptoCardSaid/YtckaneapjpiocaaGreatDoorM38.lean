/- The texts Rf2 in one file. -/
import Derived.Test.YtckaneapjpiocaaGreatDoorM37
import Derived.Test.YtckaneapjpiocaaGreatDoorM13
import Derived.Test.YtckaneapjpiocaaGreatDoorM2
namespace Go.Proofs.YtckaneapjpiocaaGreatDoor
open Go.RowKit Go.Maps Go.Sort Go.Shelf
set_option linter.unusedVariables false
set_option linter.unusedSimpArgs false
set_option maxRecDepth 100000 in
set_option maxHeartbeats 4000000 in
theorem rentry_any (w : World) (x : Lin) (hx : x.sm) :
    Calls Tryz.prog 35 #[.agg x.cells.toArray] w fun e w' => e = .returned (.bool (liB x)) ∧ Ext w w' := by
  obtain ⟨h1, h2, h3, h4⟩ := hx
  have HNm := Lib.hid (fun W => rname_any x.user W (Nat.le_trans h1 (by decide)))
  have HPa := Lib.hid (fun W (_ : Ext w W) => rpath_any x.path W (Nat.lt_of_le_of_lt h2 (by decide)))
  have HA1 := Lib.hid (fun W => show Calls Tryz.prog 30 #[.int .i64 x.kind, .int .i64 0] W fun e w' => e = .returned (.bool (amtB x.kind 0)) ∧ Ext W w' from ramount_any W x.kind 0 (lit_bd h3).1 (lit_bd h3).2)
  have HA2 := Lib.hid (fun W => show Calls Tryz.prog 30 #[.int .i64 x.err, .int .i64 0] W fun e w' => e = .returned (.bool (amtB x.err 0)) ∧ Ext W w' from ramount_any W x.err 0 (lit_bd h4).1 (lit_bd h4).2)
  have HV := Lib.hid (show liB x = ((decide (x.user.size = 0) || nameB x.user) && (pathB x.path && (amtB x.kind 0 && amtB x.err 0))) from rfl)
  have he := empty_dec x.user
  clear h1 h2 h3 h4
  generalize liB x = V at *
  obtain ⟨us, ki, pa, er⟩ := x
  dsimp only at *
  generalize decide (us.size = 0) = b0 at *
  generalize nameB us = b1 at *
  generalize pathB pa = b2 at *
  generalize amtB ki 0 = b3 at *
  generalize amtB er 0 = b4 at *
  simp only [Lin.cells]
  cases b0 <;> cases b1 <;> cases b2 <;> cases b3 <;> cases b4 <;> (focus (go_enter Tryz.func35, Tryz.ntmps35; go_upto_region 1 with fail; generalize hwH : World.alloc w _ = w1; have HH := Lib.hid (Heap.one hwH); clear hwH; go_wp2_with (first | (go_big_want; refine sh_load1 HH.out rfl rfl 0 rfl rfl (by decide +kernel) ?_) | (refine shl_load1 HH.out rfl rfl rfl 0 rfl rfl (by decide +kernel) ?_) | (go_at_call 29; (with_reducible refine (HNm.out _).mono ?_); rintro e wC ⟨rfl, eC⟩; replace HH := Lib.hid (HH.out.later eC); clear eC) | (go_at_call 73; (with_reducible refine (HPa.out _ HH.out.ext).mono ?_); rintro e wC ⟨rfl, eC⟩; replace HH := Lib.hid (HH.out.later eC); clear eC) | (go_at_call 30; (with_reducible refine (HA1.out _).mono ?_); rintro e wC ⟨rfl, eC⟩; replace HH := Lib.hid (HH.out.later eC); clear eC) | (go_at_call 30; (with_reducible refine (HA2.out _).mono ?_); rintro e wC ⟨rfl, eC⟩; replace HH := Lib.hid (HH.out.later eC); clear eC)); go_ret; exact ⟨by rw [HV.out]; rfl, HH.out.ext⟩))
end Go.Proofs.YtckaneapjpiocaaGreatDoor
