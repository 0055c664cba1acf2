/- AuditTells returns true for every log, every entry and every user, and what came in reads as it did. -/
import Derived.Test.YtehdfiiflhpoiaaTells
import Derived.Test.YtehdfiiflhpoiaaRowEnt
namespace Go.Proofs.Ytehdfiiflhpoiaa.tells
open Go.RowKit Go.ChangeShapes Go.WideShapes Go.ChangeAt
open Go.ChangeMaps (open_string shut_string)
set_option linter.unusedVariables false

theorem own : ownKnob Try.prog.godebug = none := by kernel_rfl
theorem laidOut : laidOutB Try.prog = true := by kernel_rfl
theorem bytes25 : Try.prog.bytesOf 25 = 48 := by kernel_rfl

set_option maxRecDepth 100000 in
theorem lifted (os : Os) (started : os.Started) (H : Type) (enc : TypeId × Value → H) :
    ReturnsInHanded {} Try.checked os 5 .any (Rows.auditTellsSpec.pre6 enc Try.prog Try.f5 Rows.auditTellsRow.domain false) (Rows.auditTellsSpec.post enc Try.prog Try.f5 false true false false) := by
  refine returnsInHanded_of_change_sized (C := Try.checked) own started (by kernel_rfl) Try.func5
    (ChangeSpec.witness6 (enc := enc) (C := Try.checked) false ⟨#[], #[.slice none 0 0, .agg #[.string .empty, .int .i64 0, .string .empty, .int .i64 0], .string .empty], []⟩ 8 (by kernel_rfl) (by kernel_rfl) (by kernel_rfl) (by kernel_rfl)) ?_
  intro W base args ds gs before hval0 hW _ hsz0 _
  have hsz : (DataW.weightsEach Try.prog (Try.f5.params.toList ++ Rows.auditTellsSpec.plain.varTypes Try.prog) (ds ++ gs)).all (· ≤ reachBytes) = true := hsz0
  have hval : ∀ (j : Nat) t v, Try.f5.params[j]? = some t → args[j]? = some v → Value.okWide Try.prog W .any base t v := hval0
  have hW' := hW
  obtain ⟨p, q, hA0, hV, rfl, _, _⟩ := hW
  have hA : DataW.TrodAll enc Try.prog W 0 (fun _ => true) true Try.f5.params.toList args.toList ds p := hA0
  rw [Try.params5] at hA hval hsz
  obtain ⟨v0, v1, v2, d0, d1, d2, p0, p1, p2, rfl, rfl, rfl, h0, h1, h2⟩ := trodAll_three hA
  obtain ⟨rfl, rfl⟩ := trodVars_none hV
  obtain ⟨A, n, c, xs, rfl, hn, _, hrd, hwf, hlen⟩ := open_ents (hval 0 22 v0 rfl rfl) h0
  obtain ⟨x, rfl, hx, xk, xe, hxd⟩ := open_ent (hval 1 25 v1 rfl rfl) h1
  obtain ⟨u, rfl, _, _, _⟩ := open_string Try.underlying9 (hval 2 9 v2 rfl rfl) h2
  have hb : (n + 1) * 48 ≤ 140737488355328 := by
    rcases hlen with ⟨h0, _⟩ | ⟨elems, sp, hd, hl, _⟩
    · omega
    · subst hd
      have := sized_slice hsz (j := 0) (t := 22) (e := 25) rfl rfl Try.underlying22
      rw [bytes25] at this
      simp only [reachBytes] at this
      omega
  have hb' : ∀ s : ByteArray, s.data.toList.length = s.size := fun s => by rw [Array.length_toList]; rfl
  have hws : ∀ y ∈ xs, y.wf ∧ y.user.size + y.path.size ≤ 4611686018427387904 := fun y hy => by
    refine ⟨hwf y hy, ?_⟩
    rcases hlen with ⟨_, rfl⟩ | ⟨elems, sp, hd, _, hall⟩
    · simp at hy
    · subst hd
      obtain ⟨k, e, hm⟩ := hall y hy
      obtain ⟨r1, r2⟩ := ents_reach hsz (j := 0) rfl rfl hm
      rw [hb'] at r1 r2
      simp only [reachBytes] at r1 r2
      omega
  have hxs : x.user.size + x.path.size ≤ 4611686018427387904 := by
    subst hxd
    have r1 := ent_reach hsz (j := 1) rfl rfl
    simp only [hb', reachBytes] at r1
    omega
  refine (tells_any W A n c xs x u hn hrd hb hws hx hxs).mono fun e W' ⟨he, hx⟩ => ?_
  subst he
  exact ⟨_, rfl, law_post (tb := 4) rfl hW' laidOut (by kernel_rfl) rfl rfl rfl rfl Try.underlying4 hx⟩

theorem proved : Rows.AuditTellsSaid :=
  OpenClaim.holds_of_wide 5 Try.f5 rfl rfl rfl rfl rfl rfl rfl ⟨rfl, rfl, rfl, rfl, rfl⟩ rfl rfl rfl rfl rfl (by kernel_rfl) Try.func5 (by kernel_rfl)
    (of_decide_eq_true (by kernel_rfl)) (by unfold Func.isWrapper; first | (rw [if_pos (by decide +kernel)]; kernel_rfl) | (rw [if_neg (by decide +kernel)]; exact ⟨rfl, rfl⟩))
    (fun os started H enc _ => lifted os started H enc)
end Go.Proofs.Ytehdfiiflhpoiaa.tells
