/-
  ConfTrims: trimmed confs are the same from an index on: the law answers true at every input. Condition: none.
-/
import Derived.Test.YtfckggkmiegokaaConfAts
set_option linter.unusedSimpArgs false
set_option linter.unusedVariables false
namespace Go.Proofs.Ytfckggkmiegokaa
open Go.Vx Go.ChangeShapes Go.WideShapes Go.ChangeAt Go.RowKit
theorem confTrims_own : ownKnob Try.prog.godebug = none := by kernel_rfl
theorem confTrims_laidOut : laidOutB Try.prog = true := by kernel_rfl
theorem confTrims_spec : LawSpec Rows.confTrimsSpec 3 := ⟨rfl, fun H ds h => by match ds, h with | [d0, d1, d2], _ => rfl⟩
set_option maxRecDepth 100000 in
theorem confTrims_lifted (os : Os) (started : os.Started) (H : Type) (enc : TypeId × Value → H) :
    ReturnsInHanded {} Try.checked os 9 .any (Rows.confTrimsSpec.pre6 enc Try.prog Try.f9 Rows.confTrimsRow.domain false) (Rows.confTrimsSpec.post enc Try.prog Try.f9 false true false false) := by
  refine returnsInHanded_of_change (C := Try.checked) confTrims_own started (by kernel_rfl) Try.func9
    (ChangeSpec.witness6 (enc := enc) (C := Try.checked) false ⟨#[], #[.slice none 0 0, .int .i64 0, .int .u16 0], []⟩ 8 (by kernel_rfl) (by kernel_rfl) (by kernel_rfl) (by kernel_rfl)) ?_
  intro W base args ds gs before hval0 hW hcnd _
  have hval : ∀ (j : Nat) t v, Try.f9.params[j]? = some t → args[j]? = some v → Value.okWide Try.prog W .any base t v := hval0
  refine law_post confTrims_laidOut Try.underlying4 rfl confTrims_spec rfl (by kernel_rfl) hW ?_
  obtain ⟨p, q, hA0, hV, rfl, hfz, hnd⟩ := hW
  have hA : DataW.TrodAll enc Try.prog W 0 (fun _ => true) true Try.f9.params.toList args.toList ds p := hA0
  rw [Try.params9] at hA hval
  obtain ⟨v0, vs0, d0, ds0, p0, q0, hargs, rfl, rfl, h0, r0⟩ := trodAll_cons hA
  obtain ⟨v1, vs1, d1, ds1, p1, q1, rfl, rfl, rfl, h1, r1⟩ := trodAll_cons r0
  obtain ⟨v2, vs2, d2, ds2, p2, q2, rfl, rfl, rfl, h2, r2⟩ := trodAll_cons r1
  obtain ⟨rfl, rfl, rfl⟩ := trodAll_nil r2
  obtain rfl : args = #[v0, v1, v2] := by cases args; simp_all
  have g0 := arg_t48 (hval 0 48 v0 rfl rfl) h0
  have g1 := arg_t3 (hval 1 3 v1 rfl rfl) h1
  have g2 := arg_t58 (hval 2 58 v2 rfl rfl) h2
  exact confTrims_law g0 g1 g2
theorem confTrims_over : Rows.confTrimsRow.holds Try.pinned (OpenSpec.ofChange Rows.confTrimsSpec) :=
  OpenClaim.holds_of_wide 9 Try.f9 rfl rfl rfl rfl rfl rfl rfl ⟨rfl, rfl, rfl, rfl, rfl⟩ rfl rfl rfl rfl rfl (by kernel_rfl) Try.func9 (by kernel_rfl)
    (of_decide_eq_true (by kernel_rfl)) (by unfold Func.isWrapper; first | (rw [if_pos (by decide +kernel)]; kernel_rfl) | (rw [if_neg (by decide +kernel)]; exact ⟨rfl, rfl⟩))
    (fun os started H enc _ => confTrims_lifted os started H enc)
theorem confTrims_holds : Rows.ConfTrimsSaid := confTrims_over

end Go.Proofs.Ytfckggkmiegokaa
