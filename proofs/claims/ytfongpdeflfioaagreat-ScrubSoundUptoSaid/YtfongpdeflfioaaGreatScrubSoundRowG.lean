/- ScrubSound returns true for every input, and what came in reads as it did (where what it reads is of bulk at most 1048576) -/
import Derived.Test.YtfongpdeflfioaaGreatS32
import Derived.Test.YtfongpdeflfioaaGreatS26
import Derived.Test.YtfongpdeflfioaaGreatS5
namespace Go.Proofs.YtfongpdeflfioaaGreat.ssound
open Go.RowKit Go.ChangeShapes Go.WideShapes Go.ChangeAt
open Go.ChangeMaps (open_string shut_string)
set_option linter.unusedVariables false
theorem own : ownKnob Tryz.prog.godebug = none := by kernel_rfl
theorem laidOut : laidOutB Tryz.prog = true := by kernel_rfl
set_option maxRecDepth 100000 in
theorem contract (H : Type) (enc : TypeId × Value → H) (W : World) (base : Nat) (args : Array Value) (ds gs : List (DataW H)) (before : List MemPlace)
    (hval0 : ∀ (j : Nat) t v, Tryz.f9.params[j]? = some t → args[j]? = some v → Value.okWide Tryz.prog W .any base t v)
    (hW : DataW.Whole enc Tryz.prog Tryz.f9.params.toList Rows.scrubSoundSpec.vars false W args.toList ds gs before) (hk0 : Rows.uptoSmall H (ds ++ gs) = true) :
    Calls Tryz.prog 9 args W fun e W' => ∃ v, e = .returned v ∧ Rows.scrubSoundSpec.post enc Tryz.prog Tryz.f9 false true false false W args v W' := by
  have hval : ∀ (j : Nat) t v, Tryz.f9.params[j]? = some t → args[j]? = some v → Value.okWide Tryz.prog W .any base t v := hval0
  have hW' := hW
  obtain ⟨p, q, hA0, hV, rfl, _, _⟩ := hW
  have hA : DataW.TrodAll enc Tryz.prog W 0 (fun _ => true) true Tryz.f9.params.toList args.toList ds p := hA0
  rw [Tryz.params9] at hA hval
  obtain ⟨v0, v1, v2, d0, d1, d2, p0, p1, p2, rfl, rfl, rfl, h0, h1, h2⟩ := trodAll_three hA
  obtain ⟨rfl, rfl⟩ := trodVars_none hV
  have hk := bulks.bound hk0
  simp only [List.append_nil] at hk
  obtain ⟨a, rfl, ha, ma⟩ := opm.opens_objs.param_slice Tryz.underlying28 (hval 1 28 v1 rfl rfl) h1 (opb.arg_le hk (by simp))
  have wa : Sl.At W 0 W.heap.size Ob.cells (Ob.At W 0 W.heap.size) a := ⟨ha.len, ha.le, ha.cap, ha.rd, fun x hx => (ha.all x hx).1⟩
  obtain ⟨b, rfl, hb, mb⟩ := opm.opens_objs.param_slice Tryz.underlying28 (hval 2 28 v2 rfl rfl) h2 (opb.arg_le hk (by simp))
  have wb : Sl.At W 0 W.heap.size Ob.cells (Ob.At W 0 W.heap.size) b := ⟨hb.len, hb.le, hb.cap, hb.rd, fun x hx => (hb.all x hx).1⟩
  obtain ⟨n, rfl⟩ := okWide_int Tryz.underlying3 (hval 0 3 v0 rfl rfl)
  obtain ⟨fuel0, hf0⟩ := h0
  obtain ⟨n9, hn0, _, hw0⟩ := DataW.trod_int Tryz.underlying3 hf0
  obtain rfl : n = n9 := by simpa [Value.cells] using hn0
  refine (ssound_any W n a b hw0 wa wb).mono fun e W' ⟨he, hx⟩ => ?_
  subst he
  exact ⟨_, rfl, law_post (tb := 4) rfl hW' laidOut (by kernel_rfl) rfl rfl rfl rfl Tryz.underlying4 hx⟩
set_option maxRecDepth 100000 in
theorem lifted (os : Os) (started : os.Started) (H : Type) (enc : TypeId × Value → H) (F : Stop.Interp) :
    ReturnsInHanded {} Tryz.checked os 9 .any ((Rows.OpenSpec.upto Rows.scrubSoundSpec).pre6 enc Tryz.prog Tryz.f9 Rows.scrubSoundUptoRow.domain false) (((Rows.OpenSpec.upto Rows.scrubSoundSpec).at F).post enc Tryz.prog Tryz.f9 false true false false) := by
  refine returnsInHanded_of_cond (C := Tryz.checked) (s := Rows.OpenSpec.upto Rows.scrubSoundSpec) (k := Rows.uptoSmall) rfl own started (by kernel_rfl) Tryz.func9
    (OpenSpec.witness (enc := enc) (C := Tryz.checked) (s := Rows.OpenSpec.upto Rows.scrubSoundSpec) (k := Rows.uptoSmall) rfl false ⟨#[], #[.int .i64 0, .slice none 0 0, .slice none 0 0], []⟩ 8 (by kernel_rfl) (by kernel_rfl) (by kernel_rfl)
      (x := ([.lit (.int .i64 0), .nil, .nil], [], [])) (by kernel_rfl) rfl (by kernel_rfl)) ?_
  intro W base args ds gs before hval hW _ hk _
  exact contract H enc W base args ds gs before hval hW hk
theorem proved : Rows.ScrubSoundUptoSaid :=
  OpenClaim.holds_of_cond 9 Tryz.f9 rfl rfl rfl rfl rfl rfl rfl ⟨rfl, rfl, rfl, rfl, rfl⟩ rfl rfl rfl rfl rfl (by kernel_rfl) Tryz.func9 (by kernel_rfl)
    (of_decide_eq_true (by kernel_rfl)) (by unfold Func.isWrapper; first | (rw [if_pos (by decide +kernel)]; kernel_rfl) | (rw [if_neg (by decide +kernel)]; exact ⟨rfl, rfl⟩))
    (fun os started H enc _ F => lifted os started H enc F)
end Go.Proofs.YtfongpdeflfioaaGreat.ssound
