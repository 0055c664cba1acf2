/- ScrubFinds returns true for every input, and what came in reads as it did (where what it reads is of bulk at most 1048576) -/
import Derived.Test.YtfongpdeflfioaaGreatS30
import Derived.Test.YtfongpdeflfioaaGreatS31
import Derived.Test.YtfongpdeflfioaaGreatS5
namespace Go.Proofs.YtfongpdeflfioaaGreat.sfinds
open Go.RowKit Go.ChangeShapes Go.WideShapes Go.ChangeAt
open Go.ChangeMaps (open_string shut_string)
set_option linter.unusedVariables false
theorem own : ownKnob Tryz.prog.godebug = none := by kernel_rfl
theorem laidOut : laidOutB Tryz.prog = true := by kernel_rfl
set_option maxRecDepth 100000 in
theorem contract (H : Type) (enc : TypeId × Value → H) (W : World) (base : Nat) (args : Array Value) (ds gs : List (DataW H)) (before : List MemPlace)
    (hval0 : ∀ (j : Nat) t v, Tryz.f8.params[j]? = some t → args[j]? = some v → Value.okWide Tryz.prog W .any base t v)
    (hW : DataW.Whole enc Tryz.prog Tryz.f8.params.toList Rows.scrubFindsSpec.vars false W args.toList ds gs before) (hk0 : Rows.uptoSmall H (ds ++ gs) = true) :
    Calls Tryz.prog 8 args W fun e W' => ∃ v, e = .returned v ∧ Rows.scrubFindsSpec.post enc Tryz.prog Tryz.f8 false true false false W args v W' := by
  have hval : ∀ (j : Nat) t v, Tryz.f8.params[j]? = some t → args[j]? = some v → Value.okWide Tryz.prog W .any base t v := hval0
  have hW' := hW
  obtain ⟨p, q, hA0, hV, rfl, _, _⟩ := hW
  have hA : DataW.TrodAll enc Tryz.prog W 0 (fun _ => true) true Tryz.f8.params.toList args.toList ds p := hA0
  rw [Tryz.params8] at hA hval
  obtain ⟨v0, v1, v2, v3, v4, d0, d1, d2, d3, d4, p0, p1, p2, p3, p4, rfl, rfl, rfl, h0, h1, h2, h3, h4⟩ := opm.trodAll_five hA
  obtain ⟨rfl, rfl⟩ := trodVars_none hV
  have hk := bulks.bound hk0
  simp only [List.append_nil] at hk
  obtain ⟨a, rfl, ha, ma⟩ := opm.opens_objs.param_slice Tryz.underlying28 (hval 1 28 v1 rfl rfl) h1 (opb.arg_le hk (by simp))
  have wa : Sl.At W 0 W.heap.size Ob.cells (Ob.At W 0 W.heap.size) a := ⟨ha.len, ha.le, ha.cap, ha.rd, fun x hx => (ha.all x hx).1⟩
  obtain ⟨n, rfl⟩ := okWide_int Tryz.underlying3 (hval 0 3 v0 rfl rfl)
  obtain ⟨fuel0, hf0⟩ := h0
  obtain ⟨n9, hn0, _, hw0⟩ := DataW.trod_int Tryz.underlying3 hf0
  obtain rfl : n = n9 := by simpa [Value.cells] using hn0
  obtain ⟨at0, rfl⟩ := okWide_int Tryz.underlying3 (hval 2 3 v2 rfl rfl)
  obtain ⟨fuel2, hf2⟩ := h2
  obtain ⟨at09, hn2, _, hw2⟩ := DataW.trod_int Tryz.underlying3 hf2
  obtain rfl : at0 = at09 := by simpa [Value.cells] using hn2
  obtain ⟨oc0, rfl⟩ := okWide_int Tryz.underlying3 (hval 3 3 v3 rfl rfl)
  obtain ⟨fuel3, hf3⟩ := h3
  obtain ⟨oc09, hn3, _, hw3⟩ := DataW.trod_int Tryz.underlying3 hf3
  obtain rfl : oc0 = oc09 := by simpa [Value.cells] using hn3
  obtain ⟨y0, rfl⟩ := okWide_int Tryz.underlying5 (hval 4 5 v4 rfl rfl)
  obtain ⟨fuel4, hf4⟩ := h4
  obtain ⟨y09, hn4, _, hw4⟩ := DataW.trod_int Tryz.underlying5 hf4
  obtain rfl : y0 = y09 := by simpa [Value.cells] using hn4
  obtain ⟨y, rfl⟩ : ∃ y : UInt8, y0 = (y.toNat : Int) := by
    simp only [Lit.wf, Bool.and_eq_true, decide_eq_true_eq] at hw4
    exact ⟨UInt8.ofNat y0.toNat, by have h : 0 ≤ y0 ∧ y0 ≤ 255 := hw4; simp; omega⟩
  refine (sfinds_any W n at0 oc0 y a hw0 hw2 hw3 wa).mono fun e W' ⟨he, hx⟩ => ?_
  subst he
  exact ⟨_, rfl, law_post (tb := 4) rfl hW' laidOut (by kernel_rfl) rfl rfl rfl rfl Tryz.underlying4 hx⟩
set_option maxRecDepth 100000 in
theorem lifted (os : Os) (started : os.Started) (H : Type) (enc : TypeId × Value → H) (F : Stop.Interp) :
    ReturnsInHanded {} Tryz.checked os 8 .any ((Rows.OpenSpec.upto Rows.scrubFindsSpec).pre6 enc Tryz.prog Tryz.f8 Rows.scrubFindsUptoRow.domain false) (((Rows.OpenSpec.upto Rows.scrubFindsSpec).at F).post enc Tryz.prog Tryz.f8 false true false false) := by
  refine returnsInHanded_of_cond (C := Tryz.checked) (s := Rows.OpenSpec.upto Rows.scrubFindsSpec) (k := Rows.uptoSmall) rfl own started (by kernel_rfl) Tryz.func8
    (OpenSpec.witness (enc := enc) (C := Tryz.checked) (s := Rows.OpenSpec.upto Rows.scrubFindsSpec) (k := Rows.uptoSmall) rfl false ⟨#[], #[.int .i64 0, .slice none 0 0, .int .i64 0, .int .i64 0, .int .u8 0], []⟩ 8 (by kernel_rfl) (by kernel_rfl) (by kernel_rfl)
      (x := ([.lit (.int .i64 0), .nil, .lit (.int .i64 0), .lit (.int .i64 0), .lit (.int .u8 0)], [], [])) (by kernel_rfl) rfl (by kernel_rfl)) ?_
  intro W base args ds gs before hval hW _ hk _
  exact contract H enc W base args ds gs before hval hW hk
theorem proved : Rows.ScrubFindsUptoSaid :=
  OpenClaim.holds_of_cond 8 Tryz.f8 rfl rfl rfl rfl rfl rfl rfl ⟨rfl, rfl, rfl, rfl, rfl⟩ rfl rfl rfl rfl rfl (by kernel_rfl) Tryz.func8 (by kernel_rfl)
    (of_decide_eq_true (by kernel_rfl)) (by unfold Func.isWrapper; first | (rw [if_pos (by decide +kernel)]; kernel_rfl) | (rw [if_neg (by decide +kernel)]; exact ⟨rfl, rfl⟩))
    (fun os started H enc _ F => lifted os started H enc F)
end Go.Proofs.YtfongpdeflfioaaGreat.sfinds
