/-
  The statement ControlPlays: for every input the law returns true, and each argument reads behind the call as it read before. No condition.
-/
import Derived.Test.YtagfbnfbiadpfaaGreatFrame
import Derived.Test.YtagfbnfbiadpfaaGreatLaw20h
namespace Go.Proofs.YtagfbnfbiadpfaaGreat
open Go.RowKit Go.ChangeShapes Go.WideShapes
set_option maxRecDepth 100000 in
theorem controlPlays_holds_lifted (os : Os) (started : os.Started) (H : Type) (enc : TypeId × Value → H) :
    ReturnsInHanded {} Tryz.checked os 3 .any (Rows.controlPlaysSpec.pre6 enc Tryz.prog Tryz.f3 Rows.controlPlaysRow.domain false) (Rows.controlPlaysSpec.post enc Tryz.prog Tryz.f3 false true false false) :=
  returnsInHanded_of_change (C := Tryz.checked) ownKnobs started (by kernel_rfl) Tryz.func3
    (ChangeSpec.witness6 (enc := enc) (C := Tryz.checked) false ⟨#[], #[.agg #[.int .i64 0, .int .i64 0, .int .i64 0, .int .i64 0, .int .i64 0, .int .i64 0, .int .i64 0, .int .i64 0, .int .i64 0], .slice none 0 0], []⟩ 8 (by kernel_rfl) (by kernel_rfl) (by kernel_rfl) (by kernel_rfl))
    (fun W base args ds gs before hval hW _ _ => law_step (s := Rows.controlPlaysSpec) (by kernel_rfl) rfl Tryz.underlying4 rfl (fun ds hd => by match ds, hd with | [_, _], _ => rfl) plays_done W base args ds gs before hval hW)
/-- THE STATEMENT. -/
theorem controlPlays_holds : Rows.ControlPlaysSaid :=
  OpenClaim.holds_of_wide 3 Tryz.f3 rfl rfl rfl rfl rfl rfl rfl ⟨rfl, rfl, rfl, rfl, rfl⟩ rfl rfl rfl rfl rfl (by kernel_rfl) Tryz.func3 (by kernel_rfl)
    (of_decide_eq_true (by kernel_rfl)) (by unfold Func.isWrapper; first | (rw [if_pos (by decide +kernel)]; kernel_rfl) | (rw [if_neg (by decide +kernel)]; exact ⟨rfl, rfl⟩))
    (fun os started H enc _ => controlPlays_holds_lifted os started H enc)
#print axioms controlPlays_holds
end Go.Proofs.YtagfbnfbiadpfaaGreat
