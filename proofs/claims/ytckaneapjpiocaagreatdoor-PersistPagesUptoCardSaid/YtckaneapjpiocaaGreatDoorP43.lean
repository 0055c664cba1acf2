/- The texts Max in one file. -/
import Derived.Test.YtckaneapjpiocaaGreatDoorP8
import Derived.Test.YtckaneapjpiocaaGreatDoorTie
import Derived.Test.YtckaneapjpiocaaGreatDoorCards
import Derived.Lay
import Derived.Deep.DeepHandedRow
set_option linter.unusedVariables false
set_option linter.unusedSimpArgs false
set_option maxRecDepth 100000
namespace Go.Proofs.YtckaneapjpiocaaGreatDoor
open Go.RowKit Go.ChangeShapes Go.WideShapes Go.ChangeAt
theorem ac2{W:World}(h:W.ShapedOpen Tryz.prog):yJ W:=
 Go.Proofs.cell_of_shapedOpen_int (P:=Tryz.prog) (g:=0) (t:=3) (zero:= #[.int .i64 0]) h (of_decide_eq_true (by kernel_rfl)) (by kernel_rfl) rfl (by kernel_rfl) (by kernel_rfl) Tryz.underlying3
abbrev agu:List (String×DataW Unit):= [("unicode/utf8.acceptRanges",Rows.laid_unicode_utf8_acceptRanges),("unicode/utf8.first",Rows.laid_unicode_utf8_first)]
noncomputable def witW (os:Os):World:=World.laidAll Tryz.prog os agu
theorem af0(os:Os)(args:Array Value):laidMet Tryz.prog agu ((witW os).forCall (fun _ _=>0) ⟨#[],args, []⟩).memory:=
 laidMet_laidAll args (by kernel_rfl) (by kernel_rfl)
theorem afY:ownKnob Tryz.prog.godebug=none:=by kernel_rfl
theorem agD:laidOutB Tryz.prog=true:=by kernel_rfl
section
variable {H:Type} {enc:TypeId×Value→H} {P:Program} {w:World} {base:Nat} {spare:Nat→Bool} {held:Bool}
end
end Go.Proofs.YtckaneapjpiocaaGreatDoor
