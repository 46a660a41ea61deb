
/-
  The statement RequestBack of layer 24 (request). No condition.
-/
import Derived.Test.YtobcjbpgeohbgaaGreatDoorLaw24
namespace Go.Proofs.YtobcjbpgeohbgaaGreatDoor
open Go.RowKit
set_option linter.unusedVariables false

abbrev rqShape : List (Value → Prop) := [IsI .i64, IsI .i64, IsI .i64, IsI .i64, IsI .i64, IsI .i64]
theorem rq_of (cs : List Value) (h : Fits rqShape cs) : ∃ x : Rq, cs = rqCells x := by
  obtain ⟨_, _, rfl, ⟨a, rfl, _⟩, h0⟩ := fits_cons h
  obtain ⟨_, _, rfl, ⟨b, rfl, _⟩, h1⟩ := fits_cons h0
  obtain ⟨_, _, rfl, ⟨c, rfl, _⟩, h2⟩ := fits_cons h1
  obtain ⟨_, _, rfl, ⟨d, rfl, _⟩, h3⟩ := fits_cons h2
  obtain ⟨_, _, rfl, ⟨e, rfl, _⟩, h4⟩ := fits_cons h3
  obtain ⟨_, _, rfl, ⟨f, rfl, _⟩, h5⟩ := fits_cons h4
  obtain rfl := fits_nil h5
  exact ⟨⟨a, b, c, d, e, f⟩, rfl⟩
theorem opens_rq {W : World} : Opens Tryz.prog W 24 rqShape :=
  opens_struct (ss := [[IsI .i64], [IsI .i64], [IsI .i64], [IsI .i64], [IsI .i64], [IsI .i64]]) Tryz.underlying24 (by kernel_rfl)
    ⟨rfl, by kernel_rfl, opens_int Tryz.underlying3, rfl, by kernel_rfl, opens_int Tryz.underlying3, rfl, by kernel_rfl, opens_int Tryz.underlying3, rfl, by kernel_rfl, opens_int Tryz.underlying3, rfl, by kernel_rfl, opens_int Tryz.underlying3, rfl, by kernel_rfl, opens_int Tryz.underlying3, trivial⟩
theorem came_rq {W : World} {v : Value} (h : Came Tryz.prog W 24 v) : ∃ x : Rq, v = rqV x := by
  obtain ⟨l0, rfl, f0⟩ := came_struct Tryz.underlying24 opens_rq h
  obtain ⟨x, rfl⟩ := rq_of l0 f0
  exact ⟨x, rfl⟩

def putS (x : Rq) : ByteArray := if rqOk x = true then ofL (rqL x 6) else ⟨#[]⟩
theorem qput_any (x : Rq) (w : World) : Calls Tryz.prog 127 #[rqV x] w fun e w' => e = .returned (.tuple #[.string (putS x), .int .i64 (errOf x)]) ∧ Below w.heap.size w w' := by
  unfold putS errOf
  cases h : rqOk x with
  | true => rw [if_pos rfl, if_pos rfl]; exact qput_ok x w h
  | false => rw [if_neg (by decide), if_neg (by decide)]; exact qput_bad x w h
theorem errOf_cases (x : Rq) : errOf x = 0 ∨ errOf x = 1 := by
  unfold errOf
  split
  · exact .inl rfl
  · exact .inr rfl
theorem putS_le (x : Rq) : (putS x).size ≤ 2147483648 := by
  unfold putS
  split
  · rw [← bl_len, bl_ofL]
    have := rqL_len x 6 (Nat.le_refl _)
    omega
  · decide
/-- The second half of the law: what of the body comes. -/
theorem back_facts (body : ByteArray) : (getB body).err = 0 ∧ errOf (getB body).r = 0 ∧ putS (getB body).r = body ∨ ((getB body).err != 0) = true := by
  rcases getB_err body with h | h | h
  · refine .inl ⟨h, ?_⟩
    have e : getB body = ⟨(getB body).r, 0⟩ := by
      rw [← h]
    obtain ⟨h1, h2⟩ := put_get e
    exact ⟨by unfold errOf; rw [if_pos h1], by unfold putS; rw [if_pos h1]; exact h2⟩
  · exact .inr (by rw [h]; rfl)
  · exact .inr (by rw [h]; rfl)

end Go.Proofs.YtobcjbpgeohbgaaGreatDoor
