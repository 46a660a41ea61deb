/-
  The statement WalkSteps: for every input the law returns true, and each argument reads behind the call as it read before. No condition.
-/
import Derived.Test.YtaokofldpkjloaaFrame
import Derived.Test.YtaokofldpkjloaaWalk4
namespace Go.Proofs.Ytaokofldpkjloaa
open Go.RowKit Go.ChangeShapes Go.WideShapes
set_option maxRecDepth 100000 in
theorem walkSteps_holds_lifted (os : Os) (started : os.Started) (H : Type) (enc : TypeId × Value → H) :
    ReturnsInHanded {} Try.checked os 6 .any (Rows.walkStepsSpec.pre6 enc Try.prog Try.f6 Rows.walkStepsRow.domain false) (Rows.walkStepsSpec.post enc Try.prog Try.f6 false true false false) :=
  returnsInHanded_of_change (C := Try.checked) ownKnobs started (by kernel_rfl) Try.func6
    (ChangeSpec.witness6 (enc := enc) (C := Try.checked) false ⟨#[], #[.slice none 0 0, .agg #[.int .i64 0, .int .i64 0], .agg #[.int .i64 0, .int .i64 0]], []⟩ 8 (by kernel_rfl) (by kernel_rfl) (by kernel_rfl) (by kernel_rfl))
    (fun W base args ds gs before hval hW _ _ => law_step (s := Rows.walkStepsSpec) (by kernel_rfl) rfl Try.underlying4 rfl (fun ds hd => by match ds, hd with | [_, _, _], _ => rfl) wsteps_done W base args ds gs before hval hW)
/-- THE STATEMENT. -/
theorem walkSteps_holds : Rows.WalkStepsSaid :=
  OpenClaim.holds_of_wide 6 Try.f6 rfl rfl rfl rfl rfl rfl rfl ⟨rfl, rfl, rfl, rfl, rfl⟩ rfl rfl rfl rfl rfl (by kernel_rfl) Try.func6 (by kernel_rfl)
    (of_decide_eq_true (by kernel_rfl)) (by unfold Func.isWrapper; first | (rw [if_pos (by decide +kernel)]; kernel_rfl) | (rw [if_neg (by decide +kernel)]; exact ⟨rfl, rfl⟩))
    (fun os started H enc _ => walkSteps_holds_lifted os started H enc)
#print axioms walkSteps_holds
end Go.Proofs.Ytaokofldpkjloaa
