/- FieldsTells returns true for all texts, octets, numbers and every text: texts as octets, octets as texts, numbers as texts, are as the page says. -/
import Derived.Test.YtjhdaadhbnhfcaaFtells
import Derived.Test.YtjhdaadhbnhfcaaRowArg
namespace Go.Proofs.Ytjhdaadhbnhfcaa.ftells
open Go.RowKit Go.ChangeShapes Go.WideShapes Go.ChangeAt
open Go.ChangeMaps (open_string shut_string)
set_option linter.unusedVariables false

theorem own : ownKnob Try.prog.godebug = none := by kernel_rfl
theorem laidOut : laidOutB Try.prog = true := by kernel_rfl

set_option maxRecDepth 100000 in
theorem lifted (os : Os) (started : os.Started) (H : Type) (enc : TypeId × Value → H) :
    ReturnsInHanded {} Try.checked os 6 .any (Rows.fieldsTellsSpec.pre6 enc Try.prog Try.f6 Rows.fieldsTellsRow.domain false) (Rows.fieldsTellsSpec.post enc Try.prog Try.f6 false true false false) := by
  refine returnsInHanded_of_change_sized (C := Try.checked) own started (by kernel_rfl) Try.func6
    (ChangeSpec.witness6 (enc := enc) (C := Try.checked) false ⟨#[], #[.slice none 0 0, .slice none 0 0, .int .i64 0, .string .empty], []⟩ 8 (by kernel_rfl) (by kernel_rfl) (by kernel_rfl) (by kernel_rfl)) ?_
  intro W base args ds gs before hval0 hW _ hsz0 _
  have hsz : (DataW.weightsEach Try.prog (Try.f6.params.toList ++ Rows.fieldsTellsSpec.plain.varTypes Try.prog) (ds ++ gs)).all (· ≤ reachBytes) = true := hsz0
  have hval : ∀ (j : Nat) t v, Try.f6.params[j]? = some t → args[j]? = some v → Value.okWide Try.prog W .any base t v := hval0
  have hW' := hW
  obtain ⟨p, q, hA0, hV, rfl, _, _⟩ := hW
  have hA : DataW.TrodAll enc Try.prog W 0 (fun _ => true) true Try.f6.params.toList args.toList ds p := hA0
  rw [Try.params6] at hA hval hsz
  obtain ⟨v0, v1, v2, v3, d0, d1, d2, d3, p0, p1, p2, p3, rfl, rfl, rfl, h0, h1, h2, h3⟩ := trodAll_four hA
  obtain ⟨rfl, rfl⟩ := trodVars_none hV
  obtain ⟨A, n, c, l, rfl, hn, _, _, hr, _, hlen⟩ := open_texts Try.underlying26 Try.underlying9 (by kernel_rfl) (hval 0 26 v0 rfl rfl) h0
  obtain ⟨B, m, d, b, rfl, hm, hmd, hdm, hs, hblen⟩ := open_octets Try.underlying30 Try.underlying5 (by kernel_rfl) (hval 1 30 v1 rfl rfl) h1
  simp only [maxLen] at hdm
  obtain ⟨a, rfl, _, _, wa⟩ := open_int Try.underlying3 (hval 2 3 v2 rfl rfl) h2
  have hba := wf_i64_bd wa
  obtain ⟨s, rfl, _, _, hss⟩ := open_string Try.underlying9 (hval 3 9 v3 rfl rfl) h3
  simp only [maxLen] at hss
  have hnn : n ≤ 140737488355328 := by
    rcases hlen with ⟨h0, _⟩ | ⟨elems, sp, hd, hl, _⟩
    · omega
    · subst hd
      have := sized_slice hsz (j := 0) (t := 26) (e := 9) rfl rfl Try.underlying26
      rw [show Try.prog.bytesOf 9 = 16 from by kernel_rfl] at this
      simp only [reachBytes] at this
      omega
  have hmm : m ≤ 140737488355328 := by
    rcases hblen with h0 | ⟨elems, sp, hd, hl⟩
    · omega
    · subst hd
      have := sized_slice hsz (j := 1) (t := 30) (e := 5) rfl rfl Try.underlying30
      rw [show Try.prog.bytesOf 5 = 1 from by kernel_rfl] at this
      simp only [reachBytes] at this
      omega
  refine (tells_law W A B n c m d l b a s hn hm hmd hnn hmm (by omega) hba.1 hba.2 (by omega) hr hs).mono fun e W' ⟨he, hx⟩ => ?_
  subst he
  exact ⟨_, rfl, law_post (tb := 4) rfl hW' laidOut (by kernel_rfl) rfl rfl rfl rfl Try.underlying4 hx⟩

theorem proved : Rows.FieldsTellsSaid :=
  OpenClaim.holds_of_wide 6 Try.f6 rfl rfl rfl rfl rfl rfl rfl ⟨rfl, rfl, rfl, rfl, rfl⟩ rfl rfl rfl rfl rfl (by kernel_rfl) Try.func6 (by kernel_rfl)
    (of_decide_eq_true (by kernel_rfl)) (by unfold Func.isWrapper; first | (rw [if_pos (by decide +kernel)]; kernel_rfl) | (rw [if_neg (by decide +kernel)]; exact ⟨rfl, rfl⟩))
    (fun os started H enc _ => lifted os started H enc)
end Go.Proofs.Ytjhdaadhbnhfcaa.ftells
