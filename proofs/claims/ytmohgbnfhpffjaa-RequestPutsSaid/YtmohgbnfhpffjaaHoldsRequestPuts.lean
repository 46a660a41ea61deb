/-
  The statement RequestPuts: for every input the law returns true, and each argument reads behind the call as it read before. No condition.
-/
import Derived.Test.YtmohgbnfhpffjaaFrame
import Derived.Test.YtmohgbnfhpffjaaLaw24f
namespace Go.Proofs.Ytmohgbnfhpffjaa
open Go.RowKit Go.ChangeShapes Go.WideShapes
set_option maxRecDepth 100000 in
theorem requestPuts_holds_lifted (os : Os) (started : os.Started) (H : Type) (enc : TypeId × Value → H) :
    ReturnsInHanded {} Try.checked os 9 .any (Rows.requestPutsSpec.pre6 enc Try.prog Try.f9 Rows.requestPutsRow.domain false) (Rows.requestPutsSpec.post enc Try.prog Try.f9 false true false false) :=
  returnsInHanded_of_change (C := Try.checked) ownKnobs started (by kernel_rfl) Try.func9
    (ChangeSpec.witness6 (enc := enc) (C := Try.checked) false ⟨#[], #[.agg #[.int .i64 0, .int .i64 0, .int .i64 0, .int .i64 0, .int .i64 0, .int .i64 0], .int .i64 0, .int .i64 0], []⟩ 8 (by kernel_rfl) (by kernel_rfl) (by kernel_rfl) (by kernel_rfl))
    (fun W base args ds gs before hval hW _ _ => law_step (s := Rows.requestPutsSpec) (by kernel_rfl) rfl Try.underlying4 rfl (fun ds hd => by match ds, hd with | [_, _, _], _ => rfl) rputs_done W base args ds gs before hval hW)
/-- THE STATEMENT. -/
theorem requestPuts_holds : Rows.RequestPutsSaid :=
  OpenClaim.holds_of_wide 9 Try.f9 rfl rfl rfl rfl rfl rfl rfl ⟨rfl, rfl, rfl, rfl, rfl⟩ rfl rfl rfl rfl rfl (by kernel_rfl) Try.func9 (by kernel_rfl)
    (of_decide_eq_true (by kernel_rfl)) (by unfold Func.isWrapper; first | (rw [if_pos (by decide +kernel)]; kernel_rfl) | (rw [if_neg (by decide +kernel)]; exact ⟨rfl, rfl⟩))
    (fun os started H enc _ => requestPuts_holds_lifted os started H enc)
#print axioms requestPuts_holds
end Go.Proofs.Ytmohgbnfhpffjaa
