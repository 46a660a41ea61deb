
/-
  The statement OctetReads of layer 2 (octet). No condition.
-/
import Derived.Test.YtobcjbpgeohbgaaGreatDoorLaw02
namespace Go.Proofs.YtobcjbpgeohbgaaGreatDoor
open Go.RowKit
set_option linter.unusedVariables false

structure OA where
  kind : Int
  n : Int
instance : Inhabited OA := ⟨⟨0, 0⟩⟩
def oaCells (x : OA) : List Value := [.int .i64 x.kind, .int .i64 x.n]
theorem oaCells_len (x : OA) : (oaCells x).length = 2 := rfl
theorem oa_of (cs : List Value) (h : Fits [IsI .i64, IsI .i64] cs) : ∃ x : OA, cs = oaCells x ∧ x.n ≤ 9223372036854775807 := by
  obtain ⟨_, _, rfl, ⟨a, rfl, _⟩, h0⟩ := fits_cons h
  obtain ⟨_, _, rfl, ⟨b, rfl, hb⟩, h1⟩ := fits_cons h0
  obtain rfl := fits_nil h1
  exact ⟨⟨a, b⟩, rfl, i64_le hb⟩
theorem extract_le (s : ByteArray) (a b : Nat) : (s.extract a b).size ≤ s.size := by
  rw [ByteArray.size_extract]
  omega
theorem takeB_le (s : ByteArray) (n : Int) : (takeB s n).rest.size ≤ s.size := by
  unfold takeB
  split
  · split
    · exact Nat.le_refl _
    · exact extract_le _ _ _
  · exact Nat.le_refl _
theorem cutB_le (s : ByteArray) (n : Int) : (cutB s n).rest.size ≤ s.size := by
  unfold cutB
  split
  · exact Nat.le_refl _
  · split
    · exact Nat.le_refl _
    · exact extract_le _ _ _

end Go.Proofs.YtobcjbpgeohbgaaGreatDoor
