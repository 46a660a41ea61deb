
/-
  The statement OctetBack of layer 2 (octet). No condition.
-/
import Derived.Test.YtobcjbpgeohbgaaGreatDoorLaw02b
import Derived.Test.YtobcjbpgeohbgaaGreatDoorOctet4
namespace Go.Proofs.YtobcjbpgeohbgaaGreatDoor
open Go.RowKit
set_option linter.unusedVariables false

/-- The bytes of one number, if it may be put. -/
def encO (x : OA) : List UInt8 := if numOk x.n x.kind = true then beB x.n x.kind.toNat else []
theorem encO_le (x : OA) : (encO x).length ≤ 6 := by
  unfold encO
  split
  · rename_i h
    obtain ⟨W, e, h1, h6, _, _⟩ := numOk_ok h
    rw [beB_len, e]
    simpa using h6
  · simp
theorem flat_le (l : List OA) : (l.flatMap encO).length ≤ 6 * l.length := by
  induction l with
  | nil => simp
  | cons x l ih =>
    rw [List.flatMap_cons, List.length_append, List.length_cons]
    have := encO_le x
    omega
end Go.Proofs.YtobcjbpgeohbgaaGreatDoor
