/-
  The statement WordsBack: for every input the law returns true, and each argument reads behind the call as it read before. No condition.
-/
import Derived.Test.YtgkmmoiniidhlaaFrame
import Derived.Test.YtgkmmoiniidhlaaWords10
namespace Go.Proofs.Ytgkmmoiniidhlaa
open Go.RowKit Go.ChangeShapes Go.WideShapes
set_option maxRecDepth 100000 in
theorem wordsBack_holds_lifted (os : Os) (started : os.Started) (H : Type) (enc : TypeId × Value → H) :
    ReturnsInHanded {} Try.checked os 11 .any (Rows.wordsBackSpec.pre6 enc Try.prog Try.f11 Rows.wordsBackRow.domain false) (Rows.wordsBackSpec.post enc Try.prog Try.f11 false true false false) :=
  returnsInHanded_of_change (C := Try.checked) ownKnobs started (by kernel_rfl) Try.func11
    (ChangeSpec.witness6 (enc := enc) (C := Try.checked) false ⟨#[], #[.slice none 0 0], []⟩ 8 (by kernel_rfl) (by kernel_rfl) (by kernel_rfl) (by kernel_rfl))
    (fun W base args ds gs before hval hW _ _ => law_step (s := Rows.wordsBackSpec) (by kernel_rfl) rfl Try.underlying4 rfl (fun ds hd => by match ds, hd with | [_], _ => rfl) back_done W base args ds gs before hval hW)
/-- THE STATEMENT. -/
theorem wordsBack_holds : Rows.WordsBackSaid :=
  OpenClaim.holds_of_wide 11 Try.f11 rfl rfl rfl rfl rfl rfl rfl ⟨rfl, rfl, rfl, rfl, rfl⟩ rfl rfl rfl rfl rfl (by kernel_rfl) Try.func11 (by kernel_rfl)
    (of_decide_eq_true (by kernel_rfl)) (by unfold Func.isWrapper; first | (rw [if_pos (by decide +kernel)]; kernel_rfl) | (rw [if_neg (by decide +kernel)]; exact ⟨rfl, rfl⟩))
    (fun os started H enc _ => wordsBack_holds_lifted os started H enc)
#print axioms wordsBack_holds
end Go.Proofs.Ytgkmmoiniidhlaa
