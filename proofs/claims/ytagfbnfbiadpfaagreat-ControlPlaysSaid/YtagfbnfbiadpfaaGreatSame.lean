
/-
  lockkeeperref01.Same: are two lists of ints the same?
-/
import Derived.Test.YtagfbnfbiadpfaaGreatFrame
import Derived.Test.YtagfbnfbiadpfaaGreatBound
namespace Go.Proofs.YtagfbnfbiadpfaaGreat
open Go.RowKit
set_option linter.unusedVariables false

def Drawn (w w' : World) : Prop := ∃ n, w' = w.drewN n
theorem Drawn.refl (w : World) : Drawn w w := ⟨0, rfl⟩
theorem Drawn.below {w w' : World} {B : Nat} (h : Drawn w w') : Below B w w' := by
  obtain ⟨n, rfl⟩ := h
  exact below_drewN (Below.refl _ _) n

theorem Drawn.two (w : World) (n m : Nat) : Drawn w ((w.drewN n).drewN m) := ⟨n + m, by rw [World.drewN_drewN]⟩
theorem Drawn.trans {a b c : World} (h : Drawn a b) (k : Drawn b c) : Drawn a c := by
  obtain ⟨n, rfl⟩ := h
  obtain ⟨m, rfl⟩ := k
  exact Drawn.two _ _ _

theorem take_step {α : Type} [Inhabited α] (l1 l2 : List α) (k : Nat) (h1 : k < l1.length) (h2 : k < l2.length) (e : l1.take k = l2.take k) (h : nth l1 k = nth l2 k) : l1.take (k + 1) = l2.take (k + 1) := by
  rw [take_nth l1 k h1, take_nth l2 k h2, e, h]

theorem nth_ne {α : Type} [Inhabited α] (l1 l2 : List α) (k : Nat) (h : nth l1 k ≠ nth l2 k) : l1 ≠ l2 := fun e => h (by rw [e])

end Go.Proofs.YtagfbnfbiadpfaaGreat
