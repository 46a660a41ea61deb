/-
  The statement RankSorts: for every input the law returns true, and each argument reads behind the call as it read before. No condition.
-/
import Derived.Test.YtmanmebgmhpilaaFrame
import Derived.Test.YtmanmebgmhpilaaLaw11s
namespace Go.Proofs.Ytmanmebgmhpilaa
open Go.RowKit Go.ChangeShapes Go.WideShapes
set_option maxRecDepth 100000 in
theorem rankSorts_holds_lifted (os : Os) (started : os.Started) (H : Type) (enc : TypeId × Value → H) :
    ReturnsInHanded {} Try.checked os 4 .any (Rows.rankSortsSpec.pre6 enc Try.prog Try.f4 Rows.rankSortsRow.domain false) (Rows.rankSortsSpec.post enc Try.prog Try.f4 false true false false) :=
  returnsInHanded_of_change (C := Try.checked) ownKnobs started (by kernel_rfl) Try.func4
    (ChangeSpec.witness6 (enc := enc) (C := Try.checked) false ⟨#[], #[.slice none 0 0], []⟩ 8 (by kernel_rfl) (by kernel_rfl) (by kernel_rfl) (by kernel_rfl))
    (fun W base args ds gs before hval hW _ _ => law_step (s := Rows.rankSortsSpec) (by kernel_rfl) rfl Try.underlying4 rfl (fun ds hd => by match ds, hd with | [_], _ => rfl) rsorts_done W base args ds gs before hval hW)
/-- THE STATEMENT. -/
theorem rankSorts_holds : Rows.RankSortsSaid :=
  OpenClaim.holds_of_wide 4 Try.f4 rfl rfl rfl rfl rfl rfl rfl ⟨rfl, rfl, rfl, rfl, rfl⟩ rfl rfl rfl rfl rfl (by kernel_rfl) Try.func4 (by kernel_rfl)
    (of_decide_eq_true (by kernel_rfl)) (by unfold Func.isWrapper; first | (rw [if_pos (by decide +kernel)]; kernel_rfl) | (rw [if_neg (by decide +kernel)]; exact ⟨rfl, rfl⟩))
    (fun os started H enc _ => rankSorts_holds_lifted os started H enc)
#print axioms rankSorts_holds
end Go.Proofs.Ytmanmebgmhpilaa
