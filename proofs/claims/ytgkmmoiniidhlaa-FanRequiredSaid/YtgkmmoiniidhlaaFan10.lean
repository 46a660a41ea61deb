/-
  The statement FanRequired of layer 33 (fan), all cases. No condition.
-/
import Derived.Test.YtgkmmoiniidhlaaFan9a
import Derived.Test.YtgkmmoiniidhlaaFan9b
import Derived.Test.YtgkmmoiniidhlaaFan9c
namespace Go.Proofs.Ytgkmmoiniidhlaa
open Go.RowKit
set_option linter.unusedVariables false

theorem came_nw' {v : Value} {W : World} (h : Came Try.prog W 24 v) : ∃ x : Nw, v = nwV x ∧ -9223372036854775808 ≤ x.tier := by
  obtain ⟨l0, rfl, h0⟩ := came_struct Try.underlying24 opens_nw h
  obtain ⟨_, t1, rfl, ⟨n1, rfl, q1⟩, h1⟩ := fits_cons h0
  obtain ⟨_, t2, rfl, ⟨n2, rfl, _⟩, h2⟩ := fits_cons h1
  obtain ⟨_, t3, rfl, ⟨n3, rfl, _⟩, h3⟩ := fits_cons h2
  obtain ⟨_, t4, rfl, ⟨n4, rfl, _⟩, h4⟩ := fits_cons h3
  obtain rfl := fits_nil h4
  refine ⟨⟨n1, n2, n3, n4⟩, rfl, ?_⟩
  simp [Lit.wf, IntKind.min, IntKind.max, IntKind.signed, IntKind.bits] at q1
  show -9223372036854775808 ≤ n1
  omega
theorem frequired_done : Walk 3 Try.f3 := by
  intro W args hs hc
  rw [Try.params3] at hs hc
  obtain ⟨l⟩ := args
  match l, hs with
  | [v0, v1, v2], _ =>
    obtain ⟨a, c, l, rfl, g1, g2, _, hl⟩ := row_of_sl (k := 4) (cells := clCells) (fun _ => True) (by omega) cl_of (came_slice Try.underlying22 (ps := [IsI .i64, IsI .i64, IsI .i64, IsI .i64]) (by kernel_rfl) opens_cl (hc 0 22 v0 rfl rfl))
    obtain ⟨x, rfl, hx⟩ := came_nw' (hc 1 24 v1 rfl rfl)
    obtain ⟨a2, c2, l2, rfl, g3, g4, _, hl2⟩ := row_of_sl (k := 4) (cells := tdCells) (fun _ => True) (by omega) td_of (came_slice Try.underlying25 (ps := [IsI .i64, IsI .i64, IsI .i64, IsI .i64]) (by kernel_rfl) opens_td (hc 2 25 v2 rfl rfl))
    by_cases h1 : x.tier < 100
    · exact frequired_low a c l x a2 c2 l2 W g1 g2 g3 g4 hx h1 hl hl2
    · by_cases h2 : x.tier = 100
      · exact frequired_hund a c l x a2 c2 l2 W g1 g2 g3 g4 hx ⟨h1, by omega⟩ hl hl2
      · exact frequired_high a c l x a2 c2 l2 W g1 g2 g3 g4 hx (by omega) hl hl2
end Go.Proofs.Ytgkmmoiniidhlaa
