/-
  The statement FanRequired: for every input the law returns true, and each argument reads behind the call as it read before. No condition.
-/
import Derived.Test.YtgkmmoiniidhlaaFrame
import Derived.Test.YtgkmmoiniidhlaaFan10
namespace Go.Proofs.Ytgkmmoiniidhlaa
open Go.RowKit Go.ChangeShapes Go.WideShapes
set_option maxRecDepth 100000 in
theorem fanRequired_holds_lifted (os : Os) (started : os.Started) (H : Type) (enc : TypeId × Value → H) :
    ReturnsInHanded {} Try.checked os 3 .any (Rows.fanRequiredSpec.pre6 enc Try.prog Try.f3 Rows.fanRequiredRow.domain false) (Rows.fanRequiredSpec.post enc Try.prog Try.f3 false true false false) :=
  returnsInHanded_of_change (C := Try.checked) ownKnobs started (by kernel_rfl) Try.func3
    (ChangeSpec.witness6 (enc := enc) (C := Try.checked) false ⟨#[], #[.slice none 0 0, .agg #[.int .i64 0, .int .i64 0, .int .i64 0, .int .i64 0], .slice none 0 0], []⟩ 8 (by kernel_rfl) (by kernel_rfl) (by kernel_rfl) (by kernel_rfl))
    (fun W base args ds gs before hval hW _ _ => law_step (s := Rows.fanRequiredSpec) (by kernel_rfl) rfl Try.underlying4 rfl (fun ds hd => by match ds, hd with | [_, _, _], _ => rfl) frequired_done W base args ds gs before hval hW)
/-- THE STATEMENT. -/
theorem fanRequired_holds : Rows.FanRequiredSaid :=
  OpenClaim.holds_of_wide 3 Try.f3 rfl rfl rfl rfl rfl rfl rfl ⟨rfl, rfl, rfl, rfl, rfl⟩ rfl rfl rfl rfl rfl (by kernel_rfl) Try.func3 (by kernel_rfl)
    (of_decide_eq_true (by kernel_rfl)) (by unfold Func.isWrapper; first | (rw [if_pos (by decide +kernel)]; kernel_rfl) | (rw [if_neg (by decide +kernel)]; exact ⟨rfl, rfl⟩))
    (fun os started H enc _ => fanRequired_holds_lifted os started H enc)
#print axioms fanRequired_holds
end Go.Proofs.Ytgkmmoiniidhlaa
