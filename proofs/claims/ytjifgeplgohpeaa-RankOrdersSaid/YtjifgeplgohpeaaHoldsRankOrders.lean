/-
  The statement RankOrders: for every input the law returns true, and each argument reads behind the call as it read before. No condition.
-/
import Derived.Test.YtjifgeplgohpeaaFrame
import Derived.Test.YtjifgeplgohpeaaLaw11
namespace Go.Proofs.Ytjifgeplgohpeaa
open Go.RowKit Go.ChangeShapes Go.WideShapes
set_option maxRecDepth 100000 in
theorem rankOrders_holds_lifted (os : Os) (started : os.Started) (H : Type) (enc : TypeId × Value → H) :
    ReturnsInHanded {} Try.checked os 10 .any (Rows.rankOrdersSpec.pre6 enc Try.prog Try.f10 Rows.rankOrdersRow.domain false) (Rows.rankOrdersSpec.post enc Try.prog Try.f10 false true false false) :=
  returnsInHanded_of_change (C := Try.checked) ownKnobs started (by kernel_rfl) Try.func10
    (ChangeSpec.witness6 (enc := enc) (C := Try.checked) false ⟨#[], #[.agg #[.int .i64 0, .int .i64 0, .int .i64 0, .int .i64 0, .int .i64 0, .int .i64 0, .int .i64 0], .agg #[.int .i64 0, .int .i64 0, .int .i64 0, .int .i64 0, .int .i64 0, .int .i64 0, .int .i64 0], .agg #[.int .i64 0, .int .i64 0, .int .i64 0, .int .i64 0, .int .i64 0, .int .i64 0, .int .i64 0]], []⟩ 8 (by kernel_rfl) (by kernel_rfl) (by kernel_rfl) (by kernel_rfl))
    (fun W base args ds gs before hval hW _ _ => law_step (s := Rows.rankOrdersSpec) (by kernel_rfl) rfl Try.underlying4 rfl (fun ds hd => by match ds, hd with | [_, _, _], _ => rfl) orders_done W base args ds gs before hval hW)
/-- THE STATEMENT. -/
theorem rankOrders_holds : Rows.RankOrdersSaid :=
  OpenClaim.holds_of_wide 10 Try.f10 rfl rfl rfl rfl rfl rfl rfl ⟨rfl, rfl, rfl, rfl, rfl⟩ rfl rfl rfl rfl rfl (by kernel_rfl) Try.func10 (by kernel_rfl)
    (of_decide_eq_true (by kernel_rfl)) (by unfold Func.isWrapper; first | (rw [if_pos (by decide +kernel)]; kernel_rfl) | (rw [if_neg (by decide +kernel)]; exact ⟨rfl, rfl⟩))
    (fun os started H enc _ => rankOrders_holds_lifted os started H enc)
#print axioms rankOrders_holds
end Go.Proofs.Ytjifgeplgohpeaa
