/-
  The statement PileNobody: for every input the law returns true, and each argument reads behind the call as it read before. No condition.
-/
import Derived.Test.YtmanmebgmhpilaaFrame
import Derived.Test.YtmanmebgmhpilaaLaw12n
namespace Go.Proofs.Ytmanmebgmhpilaa
open Go.RowKit Go.ChangeShapes Go.WideShapes
set_option maxRecDepth 100000 in
theorem pileNobody_holds_lifted (os : Os) (started : os.Started) (H : Type) (enc : TypeId × Value → H) :
    ReturnsInHanded {} Try.checked os 6 .any (Rows.pileNobodySpec.pre6 enc Try.prog Try.f6 Rows.pileNobodyRow.domain false) (Rows.pileNobodySpec.post enc Try.prog Try.f6 false true false false) :=
  returnsInHanded_of_change (C := Try.checked) ownKnobs started (by kernel_rfl) Try.func6
    (ChangeSpec.witness6 (enc := enc) (C := Try.checked) false ⟨#[], #[.agg #[.int .i64 0, .int .i64 0, .int .i64 0, .int .i64 0, .int .i64 0, .int .i64 0, .int .i64 0]], []⟩ 8 (by kernel_rfl) (by kernel_rfl) (by kernel_rfl) (by kernel_rfl))
    (fun W base args ds gs before hval hW _ _ => law_step (s := Rows.pileNobodySpec) (by kernel_rfl) rfl Try.underlying4 rfl (fun ds hd => by match ds, hd with | [_], _ => rfl) nobody_done W base args ds gs before hval hW)
/-- THE STATEMENT. -/
theorem pileNobody_holds : Rows.PileNobodySaid :=
  OpenClaim.holds_of_wide 6 Try.f6 rfl rfl rfl rfl rfl rfl rfl ⟨rfl, rfl, rfl, rfl, rfl⟩ rfl rfl rfl rfl rfl (by kernel_rfl) Try.func6 (by kernel_rfl)
    (of_decide_eq_true (by kernel_rfl)) (by unfold Func.isWrapper; first | (rw [if_pos (by decide +kernel)]; kernel_rfl) | (rw [if_neg (by decide +kernel)]; exact ⟨rfl, rfl⟩))
    (fun os started H enc _ => pileNobody_holds_lifted os started H enc)
#print axioms pileNobody_holds
end Go.Proofs.Ytmanmebgmhpilaa
