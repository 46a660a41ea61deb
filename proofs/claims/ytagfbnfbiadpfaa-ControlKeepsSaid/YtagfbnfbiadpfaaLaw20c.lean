/-
  The statement ControlKeeps of layer 20 (control): its arguments. No condition.
-/
import Derived.Test.YtagfbnfbiadpfaaLaw20b
namespace Go.Proofs.Ytagfbnfbiadpfaa
open Go.RowKit
set_option linter.unusedVariables false

theorem opens_kb {W : World} : Opens Try.prog W 23 [IsI .i64, IsI .i64, IsI .i64, IsI .i64, IsI .i64, IsI .i64, IsI .i64] :=
  opens_struct (ss := [[IsI .i64], [IsI .i64], [IsI .i64], [IsI .i64], [IsI .i64], [IsI .i64], [IsI .i64]]) Try.underlying23 (by kernel_rfl)
    ⟨rfl, by kernel_rfl, opens_int Try.underlying3, rfl, by kernel_rfl, opens_int Try.underlying3, rfl, by kernel_rfl, opens_int Try.underlying3, rfl, by kernel_rfl, opens_int Try.underlying3, rfl, by kernel_rfl, opens_int Try.underlying3, rfl, by kernel_rfl, opens_int Try.underlying3, rfl, by kernel_rfl, opens_int Try.underlying3, trivial⟩
abbrev nine : List (Value → Prop) := [IsI .i64, IsI .i64, IsI .i64, IsI .i64, IsI .i64, IsI .i64, IsI .i64, IsI .i64, IsI .i64]
theorem opens_cact {W : World} : Opens Try.prog W 36 nine :=
  opens_struct (ss := [[IsI .i64], [IsI .i64], [IsI .i64, IsI .i64, IsI .i64, IsI .i64, IsI .i64, IsI .i64, IsI .i64]]) Try.underlying36 (by kernel_rfl)
    ⟨rfl, by kernel_rfl, opens_int Try.underlying3, rfl, by kernel_rfl, opens_int Try.underlying3, rfl, by kernel_rfl, opens_kb, trivial⟩
theorem opens_cof {W : World} : Opens Try.prog W 25 nine :=
  opens_struct (ss := [[IsI .i64], [IsI .i64], [IsI .i64, IsI .i64, IsI .i64, IsI .i64, IsI .i64, IsI .i64, IsI .i64]]) Try.underlying25 (by kernel_rfl)
    ⟨rfl, by kernel_rfl, opens_int Try.underlying3, rfl, by kernel_rfl, opens_int Try.underlying3, rfl, by kernel_rfl, opens_kb, trivial⟩
theorem nine_of (cs : List Value) (h : Fits nine cs) : ∃ x : CAct, cs = cactCells x ∧ True := by
  obtain ⟨_, _, rfl, ⟨x0, rfl, _⟩, h1⟩ := fits_cons h
  obtain ⟨_, _, rfl, ⟨x1, rfl, _⟩, h2⟩ := fits_cons h1
  obtain ⟨_, _, rfl, ⟨x2, rfl, _⟩, h3⟩ := fits_cons h2
  obtain ⟨_, _, rfl, ⟨x3, rfl, _⟩, h4⟩ := fits_cons h3
  obtain ⟨_, _, rfl, ⟨x4, rfl, _⟩, h5⟩ := fits_cons h4
  obtain ⟨_, _, rfl, ⟨x5, rfl, _⟩, h6⟩ := fits_cons h5
  obtain ⟨_, _, rfl, ⟨x6, rfl, _⟩, h7⟩ := fits_cons h6
  obtain ⟨_, _, rfl, ⟨x7, rfl, _⟩, h8⟩ := fits_cons h7
  obtain ⟨_, _, rfl, ⟨x8, rfl, _⟩, h9⟩ := fits_cons h8
  obtain rfl := fits_nil h9
  exact ⟨⟨x0, x1, ⟨x2, x3, x4, x5, x6, x7, x8⟩⟩, rfl, trivial⟩
theorem wf_u8c (x : Int) (h : (Lit.int .u8 x).wf = true) : 0 ≤ x ∧ x ≤ 255 := by
  have := bounds_u8 h
  omega
theorem keeps_done : Walk 3 Try.f3 := by
  intro W args hs hc
  rw [Try.params3] at hs hc
  obtain ⟨l⟩ := args
  match l, hs with
  | [v0, v1, v2], _ =>
    obtain ⟨l0, rfl, f0⟩ := came_struct Try.underlying25 opens_cof (hc 0 25 v0 rfl rfl)
    obtain ⟨x, rfl, _⟩ := nine_of l0 f0
    obtain ⟨a, c, l, rfl, g1, g2, _, hl⟩ := row_of_sl (k := 9) (cells := cactCells) (fun _ => True) (by omega) nine_of (came_slice Try.underlying26 (ps := nine) (by kernel_rfl) opens_cact (hc 1 26 v1 rfl rfl))
    obtain ⟨l2, rfl, f2⟩ := came_array Try.underlying27 (opens_array (s := [IsI .u8]) Try.underlying27 (by kernel_rfl) (by kernel_rfl) (opens_int Try.underlying5)) (hc 2 27 v2 rfl rfl)
    obtain ⟨_, _, rfl, ⟨x0, rfl, w0⟩, f2a⟩ := fits_cons f2
    obtain ⟨_, _, rfl, ⟨x1, rfl, w1⟩, f2b⟩ := fits_cons f2a
    obtain rfl := fits_nil f2b
    exact keeps_walk x.kd x.n x.k a c l x0 x1 W g1 g2 (wf_u8c x0 w0) (wf_u8c x1 w1) hl
end Go.Proofs.Ytagfbnfbiadpfaa
