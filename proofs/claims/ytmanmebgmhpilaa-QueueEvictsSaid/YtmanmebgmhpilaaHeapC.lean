/-
  Layer 12 (pile): the three items of the statements' awake, in plain Lean.
-/
import Derived.Test.YtmanmebgmhpilaaHeap
namespace Go.Proofs.Ytmanmebgmhpilaa
open Go.RowKit
set_option linter.unusedVariables false

def ia : It := ⟨1, 0, 0, 7, 0, 0, 0⟩
def ib : It := ⟨2, 0, 0, 3, 0, 0, 0⟩
def ic : It := ⟨3, 0, 0, 5, 0, 0, 0⟩
theorem aw1 : upT ([] ++ [ia]) ([] : List It).length = [ia] := upT_stop (fun h => absurd h.1 (by decide))
theorem aw2 : upT ([ia] ++ [ib]) [ia].length = [ib, ia] := by
  rw [upT_go (by decide) (by decide)]
  exact upT_stop (fun h => absurd h.1 (by decide))
theorem aw3 : upT ([ib, ia] ++ [ic]) [ib, ia].length = [ib, ia, ic] := upT_stop (fun h => absurd h.2 (by decide))
theorem aw4 : outT [ib, ia, ic] 0 = [ic, ia] := by
  unfold outT
  rw [if_pos (by decide)]
  have e : upT (cutT [ib, ia, ic] 0 2) 0 = [ic, ia] := upT_stop (fun h => absurd h.1 (by decide))
  show downT (upT (cutT [ib, ia, ic] 0 2) 0) 0 = _
  rw [e]
  exact downT_stop (by decide)
theorem aw5 : outT [ic, ia] 0 = [ia] := by
  unfold outT
  rw [if_pos (by decide)]
  have e : upT (cutT [ic, ia] 0 1) 0 = [ia] := upT_stop (fun h => absurd h.1 (by decide))
  show downT (upT (cutT [ic, ia] 0 1) 0) 0 = _
  rw [e]
  exact downT_stop (by decide)
end Go.Proofs.Ytmanmebgmhpilaa
