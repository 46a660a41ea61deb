/-
  The statement PileSorts of layer 12 (pile): its arguments. No condition.
-/
import Derived.Test.YtmanmebgmhpilaaLaw12
namespace Go.Proofs.Ytmanmebgmhpilaa
open Go.RowKit
set_option linter.unusedVariables false

theorem it_ok (cs : List Value) (h : Fits itShape cs) : ∃ x : It, cs = itCells x ∧ IdOk x.id := by
  obtain ⟨_, _, rfl, ⟨a, rfl, ha⟩, h0⟩ := fits_cons h
  obtain ⟨_, _, rfl, ⟨b, rfl, _⟩, h1⟩ := fits_cons h0
  obtain ⟨_, _, rfl, ⟨c, rfl, _⟩, h2⟩ := fits_cons h1
  obtain ⟨_, _, rfl, ⟨d, rfl, _⟩, h3⟩ := fits_cons h2
  obtain ⟨_, _, rfl, ⟨e, rfl, _⟩, h4⟩ := fits_cons h3
  obtain ⟨_, _, rfl, ⟨f, rfl, _⟩, h5⟩ := fits_cons h4
  obtain ⟨_, _, rfl, ⟨g, rfl, _⟩, h6⟩ := fits_cons h5
  obtain rfl := fits_nil h6
  exact ⟨⟨a, b, c, d, e, f, g⟩, rfl, ha⟩
theorem sorts_done : Walk 3 Try.f3 := by
  intro W args hs hc
  rw [Try.params3] at hs hc
  obtain ⟨l⟩ := args
  match l, hs with
  | [v0, v1], _ =>
    obtain ⟨a, c, l, rfl, g1, g2, hwf, hl⟩ := row_of_sl (k := 7) (cells := itCells) (fun x => IdOk x.id) (by omega) it_ok (came_slice Try.underlying22 (ps := itShape) (by kernel_rfl) opens_item (hc 0 22 v0 rfl rfl))
    obtain ⟨sl, hsl⟩ := kints_of_sl (came_slice Try.underlying23 (ps := [IsI .u8]) (by kernel_rfl) (opens_int Try.underlying5) (hc 1 23 v1 rfl rfl))
    exact sorts_walk a c l v1 sl W hsl g1 g2 hwf hl
end Go.Proofs.Ytmanmebgmhpilaa
