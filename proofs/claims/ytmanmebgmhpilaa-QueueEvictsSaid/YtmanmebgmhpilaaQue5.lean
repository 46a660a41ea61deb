/-
  Layer 13 (queue): Add and Sweep where there is no pile.
-/
import Derived.Test.YtmanmebgmhpilaaAwake13
namespace Go.Proofs.Ytmanmebgmhpilaa
open Go.RowKit
set_option linter.unusedVariables false
set_option linter.unusedSimpArgs false

theorem vict_alone (x : It) : vict ([] ++ [x]) (([] : List It).length + 1) = ([] : List It).length := by
  have := vict_worst [x] 1 (by decide)
  show vict [x] 1 = 0
  omega
theorem nadd (x : It) {w : World} {qv : Value} (hI : ∀ w', Below w.heap.size w w' → Items qv (.pointer none) w') : Calls Try.prog 34 #[qv, itV x] w fun e w' => e = .returned (.tuple #[.agg (itCells x).toArray, .bool true, .int .i64 0]) ∧ Below w.heap.size w w' :=
  qadd_keep qv (.pointer none) x [] w hI (fun w' _ => ppush_nil x w') (fun w' _ => (pall_nil w').mono fun e w2 ⟨he, hw⟩ => ⟨_, he, World.ownsRow_nil _ _ _ _, by rw [hw]; exact Below.refl _ _⟩) (by decide) (vict_alone x)
set_option maxRecDepth 100000 in
theorem each_nil (qv fv : Value) (w : World) (hI : Items qv (.pointer none) w) : Calls Try.prog 57 #[qv, fv] w fun e w' => e = .returned (.tuple #[]) ∧ w = w' := by
  have KA := nall hI
  clear hI
  go_enter Try.func57, Try.ntmps57
  go_wp2_with (go_at_call 31; refine KA.mono ?_; rintro e w' ⟨rfl, rfl⟩)
  go_loop [9] (fun s => s = .int .i64 0) (fun _ => 0)
  case atStart => rfl
  case round =>
    subst hrel
    go_wp2
    go_end0
    exact ⟨rfl, rfl⟩
set_option maxRecDepth 100000 in
theorem nsweep (now : Int) {w : World} {aq : Option Addr} (hI : ∀ w', Below w.heap.size w w' → Items (.pointer aq) (.pointer none) w') : Calls Try.prog 32 #[.pointer aq, .int .i64 now] w fun e w' => e = .returned (.slice none 0 0) ∧ Below w.heap.size w w' := by
  have hB : Below w.heap.size w (((w.alloc (.cells #[.pointer aq] 62)).alloc (.cells #[.int .i64 now] 3)).alloc (.cells #[.slice none 0 0] 22)) := (((Below.refl _ w).alloc (Nat.le_refl _) _).alloc (by simp) _).alloc (by simp; omega) _
  have hO : IsObj (((w.alloc (.cells #[.pointer aq] 62)).alloc (.cells #[.int .i64 now] 3)).alloc (.cells #[.slice none 0 0] 22)) (w.heap.size + 1 + 1) 22 [.slice none 0 0] := by
    have h := IsObj.new ((w.alloc (.cells #[.pointer aq] 62)).alloc (.cells #[.int .i64 now] 3)) 22 [.slice none 0 0]
    rw [World.size_alloc, World.size_alloc] at h
    exact h
  have KE := fun fv => each_nil (.pointer aq) fv _ (hI _ hB)
  have HB := Lib.hid hB
  have HO := Lib.hid hO
  clear hI hB hO
  go_enter Try.func32, Try.ntmps32
  go_wp2_with (go_at_call 57; refine (KE _).mono ?_; rintro e w' ⟨rfl, rfl⟩)
  go_ret
  exact ⟨rfl, HB.out⟩
end Go.Proofs.Ytmanmebgmhpilaa
