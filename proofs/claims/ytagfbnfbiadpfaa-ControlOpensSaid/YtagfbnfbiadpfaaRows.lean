/-
  No cell of these rows narrows 'for every input' (looked for: loops, veiled, ifaces, maps, wideKeys, modest, calm, conditions, laid).
  DERIVED. THE GIVEN ROWS OF THIS SEAT. 2 by the template 'for every input the law returns true; each argument reads behind the call as it read before'; 0 by the template 'total and deterministic' (their statements: YtagfbnfbiadpfaaTotals.lean).
  GIVEN WITH THE SEED: the statements are not yours to turn. If you find one false, say at which input.
  Laid BY PROGRAM, IN A SANDBOX (cutbox-rows.mjs): the forced cells as the released guide's own fill.sh prints them over the translation 36f46c355d9100fc… (all of the seat's roots in one cut). By AI agents, Wed Nov 11 2026. No macro, syntax, notation, axiom, sorry.
-/
import Derived.Test.YtagfbnfbiadpfaaChecked
import GoSem.Claim
import GoSem.ClaimJoined
import GoSem.ClaimMapViews
import Derived.JoinedTies
import Derived.KernelRfl
namespace Go.Proofs.Ytagfbnfbiadpfaa
/- THE CELL 'sum', in the pinned program and in every row, IS THE sha256 OF THE DUMP (.gsa) THAT YtagfbnfbiadpfaaProg.lean LOADS. Nothing in Lean hashes anything: it is a label: what it is worth is what the hold of that sum in a sandbox is worth. -/
noncomputable def Try.pinned : Pinned := { name := "ytagfbnfbiadpfaa", sum := "36f46c355d9100fc3aab3e47bebf7bcfd82e8a478a4ef4d8fd6bd4aaf7f9671f", checked := Try.checked }
namespace Rows
def none {H : Type} : Left H := { results := [], args := [] }

/-- 'lockkeeperlaw20.ControlKeeps': WHATEVER THE INPUT: true; the input reads as it did. -/
def controlKeepsSpec : ChangeSpec := { name := "controlKeeps", fn := fun _ => fun
  | [d1, d2, d3] => { results := [.lit (.bool true)], args := [d1, d2, d3] }
  | _ => none }
def controlKeepsRow : OpenClaim := { program := "ytagfbnfbiadpfaa", sum := "36f46c355d9100fc3aab3e47bebf7bcfd82e8a478a4ef4d8fd6bd4aaf7f9671f", func := "lockkeeper/lockkeeperlaw20.ControlKeeps", spec := "controlKeeps", unfollowed := true, recurses := true, apart := false }
def ControlKeepsSaid : Prop := controlKeepsRow.holds Try.pinned (OpenSpec.ofChange controlKeepsSpec)

/-- ITS FALSE NEIGHBOUR: 'it returns false'. Refute it at one input. -/
def controlKeepsWrong : ChangeSpec := { name := "controlKeeps", fn := fun _ => fun
  | [d1, d2, d3] => { results := [.lit (.bool false)], args := [d1, d2, d3] }
  | _ => none }
def ControlKeepsWrongFalsely : Prop := controlKeepsRow.holds Try.pinned (OpenSpec.ofChange controlKeepsWrong)

/-- 'lockkeeperlaw20.ControlOpens': WHATEVER THE INPUT: true; the input reads as it did. -/
def controlOpensSpec : ChangeSpec := { name := "controlOpens", fn := fun _ => fun
  | [d1, d2, d3] => { results := [.lit (.bool true)], args := [d1, d2, d3] }
  | _ => none }
def controlOpensRow : OpenClaim := { program := "ytagfbnfbiadpfaa", sum := "36f46c355d9100fc3aab3e47bebf7bcfd82e8a478a4ef4d8fd6bd4aaf7f9671f", func := "lockkeeper/lockkeeperlaw20.ControlOpens", spec := "controlOpens", unfollowed := true, recurses := true, apart := false }
def ControlOpensSaid : Prop := controlOpensRow.holds Try.pinned (OpenSpec.ofChange controlOpensSpec)

/-- ITS FALSE NEIGHBOUR: 'it returns false'. Refute it at one input. -/
def controlOpensWrong : ChangeSpec := { name := "controlOpens", fn := fun _ => fun
  | [d1, d2, d3] => { results := [.lit (.bool false)], args := [d1, d2, d3] }
  | _ => none }
def ControlOpensWrongFalsely : Prop := controlOpensRow.holds Try.pinned (OpenSpec.ofChange controlOpensWrong)

/- THE SECOND FORM. 'bulk': how many values and letters a reading holds, each counted each time it is reached (what is shared counts as often as it is met; a slice's spare places count too). A statement '..UptoSaid' is the law's where the arguments, and the package variables that the reading takes, are together of bulk at most 1048576: NARROWER than '..Said'. Prove '..Said' where nothing that the law and all that it calls make is longer than what came in: it says more and counts as full. Else prove '..UptoSaid'. A law counts once. -/
mutual
def uptoBulk {H : Type} : DataW H → Nat
  | .lit (.string bytes) => bytes.length + 1
  | .lit _ => 1
  | .nil => 1
  | .ptr d => uptoBulk d + 1
  | .slice elems spare => uptoBulkAll elems + uptoBulkAll spare + 1
  | .agg parts => uptoBulkAll parts + 1
  | .iface _ d => uptoBulk d + 1
  | .map entries => uptoBulkEntries entries + 1
  | .held _ => 1
def uptoBulkAll {H : Type} : List (DataW H) → Nat
  | [] => 0
  | d :: r => uptoBulk d + uptoBulkAll r
def uptoBulkEntries {H : Type} : List (Lit × DataW H) → Nat
  | [] => 0
  | x :: r => uptoBulkEntry x + uptoBulkEntries r
def uptoBulkEntry {H : Type} : Lit × DataW H → Nat
  | (.string bytes, d) => bytes.length + uptoBulk d + 1
  | (_, d) => uptoBulk d + 1
 end
def uptoSmall : (H : Type) → List (DataW H) → Bool := fun _ ds => decide (uptoBulkAll ds ≤ 1048576)
def OpenSpec.upto (s : _root_.Go.ChangeSpec) : _root_.Go.OpenSpec := { _root_.Go.OpenSpec.ofChange s with cond := some uptoSmall }

/-- 'lockkeeperlaw20.ControlKeeps', WHERE WHAT IT READS IS OF BULK AT MOST 1048576: true; the input reads as it did. -/
def controlKeepsUptoRow : OpenClaim := { program := "ytagfbnfbiadpfaa", sum := "36f46c355d9100fc3aab3e47bebf7bcfd82e8a478a4ef4d8fd6bd4aaf7f9671f", func := "lockkeeper/lockkeeperlaw20.ControlKeeps", spec := "controlKeeps", unfollowed := true, recurses := true, apart := false, narrowed := true }
def ControlKeepsUptoSaid : Prop := controlKeepsUptoRow.holds Try.pinned (OpenSpec.upto controlKeepsSpec)

/-- 'lockkeeperlaw20.ControlOpens', WHERE WHAT IT READS IS OF BULK AT MOST 1048576: true; the input reads as it did. -/
def controlOpensUptoRow : OpenClaim := { program := "ytagfbnfbiadpfaa", sum := "36f46c355d9100fc3aab3e47bebf7bcfd82e8a478a4ef4d8fd6bd4aaf7f9671f", func := "lockkeeper/lockkeeperlaw20.ControlOpens", spec := "controlOpens", unfollowed := true, recurses := true, apart := false, narrowed := true }
def ControlOpensUptoSaid : Prop := controlOpensUptoRow.holds Try.pinned (OpenSpec.upto controlOpensSpec)

end Rows
end Go.Proofs.Ytagfbnfbiadpfaa
