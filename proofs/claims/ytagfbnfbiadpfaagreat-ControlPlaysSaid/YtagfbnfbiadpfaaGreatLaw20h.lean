/-
  The statement ControlPlays of layer 20 (control): its arguments. No condition.
-/
import Derived.Test.YtagfbnfbiadpfaaGreatLaw20g
namespace Go.Proofs.YtagfbnfbiadpfaaGreat
open Go.RowKit
set_option linter.unusedVariables false

theorem opens_kbO {W : World} : Opens Tryz.prog W 23 [IsI .i64, IsI .i64, IsI .i64, IsI .i64, IsI .i64, IsI .i64, IsI .i64] :=
  opens_struct (ss := [[IsI .i64], [IsI .i64], [IsI .i64], [IsI .i64], [IsI .i64], [IsI .i64], [IsI .i64]]) Tryz.underlying23 (by kernel_rfl)
    ⟨rfl, by kernel_rfl, opens_int Tryz.underlying3, rfl, by kernel_rfl, opens_int Tryz.underlying3, rfl, by kernel_rfl, opens_int Tryz.underlying3, rfl, by kernel_rfl, opens_int Tryz.underlying3, rfl, by kernel_rfl, opens_int Tryz.underlying3, rfl, by kernel_rfl, opens_int Tryz.underlying3, rfl, by kernel_rfl, opens_int Tryz.underlying3, trivial⟩
abbrev nineO : List (Value → Prop) := [IsI .i64, IsI .i64, IsI .i64, IsI .i64, IsI .i64, IsI .i64, IsI .i64, IsI .i64, IsI .i64]
theorem opens_cactO {W : World} : Opens Tryz.prog W 43 nineO :=
  opens_struct (ss := [[IsI .i64], [IsI .i64], [IsI .i64, IsI .i64, IsI .i64, IsI .i64, IsI .i64, IsI .i64, IsI .i64]]) Tryz.underlying43 (by kernel_rfl)
    ⟨rfl, by kernel_rfl, opens_int Tryz.underlying3, rfl, by kernel_rfl, opens_int Tryz.underlying3, rfl, by kernel_rfl, opens_kbO, trivial⟩
theorem opens_cofO {W : World} : Opens Tryz.prog W 25 nineO :=
  opens_struct (ss := [[IsI .i64], [IsI .i64], [IsI .i64, IsI .i64, IsI .i64, IsI .i64, IsI .i64, IsI .i64, IsI .i64]]) Tryz.underlying25 (by kernel_rfl)
    ⟨rfl, by kernel_rfl, opens_int Tryz.underlying3, rfl, by kernel_rfl, opens_int Tryz.underlying3, rfl, by kernel_rfl, opens_kbO, trivial⟩
theorem nine_ofO (cs : List Value) (h : Fits nineO cs) : ∃ x : CAct, cs = cactCells x ∧ True := by
  obtain ⟨_, _, rfl, ⟨x0, rfl, _⟩, h1⟩ := fits_cons h
  obtain ⟨_, _, rfl, ⟨x1, rfl, _⟩, h2⟩ := fits_cons h1
  obtain ⟨_, _, rfl, ⟨x2, rfl, _⟩, h3⟩ := fits_cons h2
  obtain ⟨_, _, rfl, ⟨x3, rfl, _⟩, h4⟩ := fits_cons h3
  obtain ⟨_, _, rfl, ⟨x4, rfl, _⟩, h5⟩ := fits_cons h4
  obtain ⟨_, _, rfl, ⟨x5, rfl, _⟩, h6⟩ := fits_cons h5
  obtain ⟨_, _, rfl, ⟨x6, rfl, _⟩, h7⟩ := fits_cons h6
  obtain ⟨_, _, rfl, ⟨x7, rfl, _⟩, h8⟩ := fits_cons h7
  obtain ⟨_, _, rfl, ⟨x8, rfl, _⟩, h9⟩ := fits_cons h8
  obtain rfl := fits_nil h9
  exact ⟨⟨x0, x1, ⟨x2, x3, x4, x5, x6, x7, x8⟩⟩, rfl, trivial⟩
theorem plays_done : Walk 3 Tryz.f3 := by
  intro W args hs hc
  rw [Tryz.params3] at hs hc
  obtain ⟨l⟩ := args
  match l, hs with
  | [v0, v1], _ =>
    obtain ⟨l0, rfl, f0⟩ := came_struct Tryz.underlying25 opens_cofO (hc 0 25 v0 rfl rfl)
    obtain ⟨x, rfl, _⟩ := nine_ofO l0 f0
    obtain ⟨a, c, l, rfl, g1, g2, _, hl⟩ := row_of_sl (k := 9) (cells := cactCells) (fun _ => True) (by omega) nine_ofO (came_slice Tryz.underlying26 (ps := nineO) (by kernel_rfl) opens_cactO (hc 1 26 v1 rfl rfl))
    exact plays_walk x.kd x.n x.k a c l W g1 g2 hl
end Go.Proofs.YtagfbnfbiadpfaaGreat
