
/-
  The statements of layer 2 (octet): OctetPuts. No condition.
-/
import Derived.Test.YtobcjbpgeohbgaaGreatDoorOctet3
namespace Go.Proofs.YtobcjbpgeohbgaaGreatDoor
open Go.RowKit
set_option linter.unusedVariables false

theorem i64_le {n : Int} (h : (Lit.int .i64 n).wf = true) : n ≤ 9223372036854775807 := by
  have h2 := h
  simp only [Lit.wf, Bool.and_eq_true, decide_eq_true_eq] at h2
  exact h2.2
end Go.Proofs.YtobcjbpgeohbgaaGreatDoor
