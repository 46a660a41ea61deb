
/-
  Layer 26 (push): the document's answer.
-/
import Derived.Test.YtobcjbpgeohbgaaDoorPush3
import Derived.Test.YtobcjbpgeohbgaaDoorFormRef
namespace Go.Proofs.YtobcjbpgeohbgaaDoor
open Go.RowKit
set_option linter.unusedVariables false

abbrev knV (x : Ps) : Value := .agg #[.int .i64 x.p2, .int .i64 x.p3, .int .i64 x.p4, .int .i64 x.p5, .int .i64 x.p6, .int .i64 x.p7, .int .i64 x.p8]
/-- May number k of the settings be so? -/
def okK (x : Ps) (k : Nat) : Prop := 0 ≤ pf x (k + 2) ∧ pf x (k + 2) ≤ 65535 ∧ (1 < k → pf x (k + 2) ≤ 255)
theorem lt7 {i : Nat} (h : i < 7) : i = 0 ∨ i = 1 ∨ i = 2 ∨ i = 3 ∨ i = 4 ∨ i = 5 ∨ i = 6 := by omega
theorem okK_of {x : Ps} (h : psOk x = true) (k : Nat) (hk : k < 7) : okK x k := by
  simp only [psOk, decide_eq_true_eq] at h
  unfold okK
  rcases lt7 hk with rfl | rfl | rfl | rfl | rfl | rfl | rfl
  · show 0 ≤ x.p2 ∧ x.p2 ≤ 65535 ∧ (1 < 0 → x.p2 ≤ 255); omega
  · show 0 ≤ x.p3 ∧ x.p3 ≤ 65535 ∧ (1 < 1 → x.p3 ≤ 255); omega
  · show 0 ≤ x.p4 ∧ x.p4 ≤ 65535 ∧ (1 < 2 → x.p4 ≤ 255); omega
  · show 0 ≤ x.p5 ∧ x.p5 ≤ 65535 ∧ (1 < 3 → x.p5 ≤ 255); omega
  · show 0 ≤ x.p6 ∧ x.p6 ≤ 65535 ∧ (1 < 4 → x.p6 ≤ 255); omega
  · show 0 ≤ x.p7 ∧ x.p7 ≤ 65535 ∧ (1 < 5 → x.p7 ≤ 255); omega
  · show 0 ≤ x.p8 ∧ x.p8 ≤ 65535 ∧ (1 < 6 → x.p8 ≤ 255); omega
theorem psOk_of {x : Ps} (h : ∀ k, k < 7 → okK x k) (h0 : 0 ≤ x.p0 ∧ x.p0 ≤ 7) (h1 : 0 ≤ x.p1 ∧ x.p1 ≤ 4294967295) : psOk x = true := by
  have k0 : 0 ≤ x.p2 ∧ x.p2 ≤ 65535 ∧ (1 < 0 → x.p2 ≤ 255) := h 0 (by omega)
  have k1 : 0 ≤ x.p3 ∧ x.p3 ≤ 65535 ∧ (1 < 1 → x.p3 ≤ 255) := h 1 (by omega)
  have k2 : 0 ≤ x.p4 ∧ x.p4 ≤ 65535 ∧ (1 < 2 → x.p4 ≤ 255) := h 2 (by omega)
  have k3 : 0 ≤ x.p5 ∧ x.p5 ≤ 65535 ∧ (1 < 3 → x.p5 ≤ 255) := h 3 (by omega)
  have k4 : 0 ≤ x.p6 ∧ x.p6 ≤ 65535 ∧ (1 < 4 → x.p6 ≤ 255) := h 4 (by omega)
  have k5 : 0 ≤ x.p7 ∧ x.p7 ≤ 65535 ∧ (1 < 5 → x.p7 ≤ 255) := h 5 (by omega)
  have k6 : 0 ≤ x.p8 ∧ x.p8 ≤ 65535 ∧ (1 < 6 → x.p8 ≤ 255) := h 6 (by omega)
  simp only [psOk, decide_eq_true_eq]
  omega
theorem kn_at (x : Ps) (k : Nat) (h : k < 7) : (kn7 x)[k]? = some (.int .i64 (pf x (k + 2))) := by
  rcases lt7 h with rfl | rfl | rfl | rfl | rfl | rfl | rfl <;> rfl

end Go.Proofs.YtobcjbpgeohbgaaDoor
