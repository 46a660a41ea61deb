/-
  No cell of these rows narrows 'for every input' (looked for: loops, veiled, ifaces, maps, wideKeys, modest, calm, conditions, laid).
  DERIVED. THE GIVEN ROWS OF THIS SEAT. 12 by the template 'for every input the law returns true; each argument reads behind the call as it read before'; 0 by the template 'total and deterministic' (their statements: YtjifgeplgohpeaaTotals.lean).
  GIVEN WITH THE SEED: the statements are not yours to turn. If you find one false, say at which input.
  Laid BY PROGRAM, IN A SANDBOX (cutbox-rows.mjs): the forced cells as the released guide's own fill.sh prints them over the translation e8cf7338cbf20004… (all of the seat's roots in one cut). By AI agents, Wed Nov 11 2026. No macro, syntax, notation, axiom, sorry.
-/
import Derived.Test.YtjifgeplgohpeaaChecked
import GoSem.Claim
import GoSem.ClaimJoined
import GoSem.ClaimMapViews
import Derived.JoinedTies
import Derived.KernelRfl
namespace Go.Proofs.Ytjifgeplgohpeaa
/- THE CELL 'sum', in the pinned program and in every row, IS THE sha256 OF THE DUMP (.gsa) THAT YtjifgeplgohpeaaProg.lean LOADS. Nothing in Lean hashes anything: it is a label: what it is worth is what the hold of that sum in a sandbox is worth. -/
noncomputable def Try.pinned : Pinned := { name := "ytjifgeplgohpeaa", sum := "e8cf7338cbf2000444b0d974e31eb304b1805eb9d9a8c8f03f33ea555c104389", checked := Try.checked }
namespace Rows
def none {H : Type} : Left H := { results := [], args := [] }

/-- 'lockkeeperlaw21.TableLearns': WHATEVER THE INPUT: true; the input reads as it did. -/
def tableLearnsSpec : ChangeSpec := { name := "tableLearns", fn := fun _ => fun
  | [d1, d2] => { results := [.lit (.bool true)], args := [d1, d2] }
  | _ => none }
def tableLearnsRow : OpenClaim := { program := "ytjifgeplgohpeaa", sum := "e8cf7338cbf2000444b0d974e31eb304b1805eb9d9a8c8f03f33ea555c104389", func := "lockkeeper/lockkeeperlaw21.TableLearns", spec := "tableLearns", unfollowed := true, recurses := true, apart := false }
def TableLearnsSaid : Prop := tableLearnsRow.holds Try.pinned (OpenSpec.ofChange tableLearnsSpec)

/-- ITS FALSE NEIGHBOUR: 'it returns false'. Refute it at one input. -/
def tableLearnsWrong : ChangeSpec := { name := "tableLearns", fn := fun _ => fun
  | [d1, d2] => { results := [.lit (.bool false)], args := [d1, d2] }
  | _ => none }
def TableLearnsWrongFalsely : Prop := tableLearnsRow.holds Try.pinned (OpenSpec.ofChange tableLearnsWrong)

/-- 'lockkeeperlaw21.TableNobody': WHATEVER THE INPUT: true; the input reads as it did. -/
def tableNobodySpec : ChangeSpec := { name := "tableNobody", fn := fun _ => fun
  | [d] => { results := [.lit (.bool true)], args := [d] }
  | _ => none }
def tableNobodyRow : OpenClaim := { program := "ytjifgeplgohpeaa", sum := "e8cf7338cbf2000444b0d974e31eb304b1805eb9d9a8c8f03f33ea555c104389", func := "lockkeeper/lockkeeperlaw21.TableNobody", spec := "tableNobody", unfollowed := true, recurses := true, apart := false }
def TableNobodySaid : Prop := tableNobodyRow.holds Try.pinned (OpenSpec.ofChange tableNobodySpec)

/-- ITS FALSE NEIGHBOUR: 'it returns false'. Refute it at one input. -/
def tableNobodyWrong : ChangeSpec := { name := "tableNobody", fn := fun _ => fun
  | [d] => { results := [.lit (.bool false)], args := [d] }
  | _ => none }
def TableNobodyWrongFalsely : Prop := tableNobodyRow.holds Try.pinned (OpenSpec.ofChange tableNobodyWrong)

/-- 'lockkeeperlaw16.TurnDwells': WHATEVER THE INPUT: true; the input reads as it did. -/
def turnDwellsSpec : ChangeSpec := { name := "turnDwells", fn := fun _ => fun
  | [d1, d2] => { results := [.lit (.bool true)], args := [d1, d2] }
  | _ => none }
def turnDwellsRow : OpenClaim := { program := "ytjifgeplgohpeaa", sum := "e8cf7338cbf2000444b0d974e31eb304b1805eb9d9a8c8f03f33ea555c104389", func := "lockkeeper/lockkeeperlaw16.TurnDwells", spec := "turnDwells", unfollowed := true, recurses := true, apart := false }
def TurnDwellsSaid : Prop := turnDwellsRow.holds Try.pinned (OpenSpec.ofChange turnDwellsSpec)

/-- ITS FALSE NEIGHBOUR: 'it returns false'. Refute it at one input. -/
def turnDwellsWrong : ChangeSpec := { name := "turnDwells", fn := fun _ => fun
  | [d1, d2] => { results := [.lit (.bool false)], args := [d1, d2] }
  | _ => none }
def TurnDwellsWrongFalsely : Prop := turnDwellsRow.holds Try.pinned (OpenSpec.ofChange turnDwellsWrong)

/-- 'lockkeeperlaw17.DimDwells': WHATEVER THE INPUT: true; the input reads as it did. -/
def dimDwellsSpec : ChangeSpec := { name := "dimDwells", fn := fun _ => fun
  | [d1, d2, d3] => { results := [.lit (.bool true)], args := [d1, d2, d3] }
  | _ => none }
def dimDwellsRow : OpenClaim := { program := "ytjifgeplgohpeaa", sum := "e8cf7338cbf2000444b0d974e31eb304b1805eb9d9a8c8f03f33ea555c104389", func := "lockkeeper/lockkeeperlaw17.DimDwells", spec := "dimDwells", unfollowed := true, recurses := true, apart := false }
def DimDwellsSaid : Prop := dimDwellsRow.holds Try.pinned (OpenSpec.ofChange dimDwellsSpec)

/-- ITS FALSE NEIGHBOUR: 'it returns false'. Refute it at one input. -/
def dimDwellsWrong : ChangeSpec := { name := "dimDwells", fn := fun _ => fun
  | [d1, d2, d3] => { results := [.lit (.bool false)], args := [d1, d2, d3] }
  | _ => none }
def DimDwellsWrongFalsely : Prop := dimDwellsRow.holds Try.pinned (OpenSpec.ofChange dimDwellsWrong)

/-- 'lockkeeperlaw16.TurnSteps': WHATEVER THE INPUT: true; the input reads as it did. -/
def turnStepsSpec : ChangeSpec := { name := "turnSteps", fn := fun _ => fun
  | [d] => { results := [.lit (.bool true)], args := [d] }
  | _ => none }
def turnStepsRow : OpenClaim := { program := "ytjifgeplgohpeaa", sum := "e8cf7338cbf2000444b0d974e31eb304b1805eb9d9a8c8f03f33ea555c104389", func := "lockkeeper/lockkeeperlaw16.TurnSteps", spec := "turnSteps", unfollowed := true, recurses := true, apart := false }
def TurnStepsSaid : Prop := turnStepsRow.holds Try.pinned (OpenSpec.ofChange turnStepsSpec)

/-- ITS FALSE NEIGHBOUR: 'it returns false'. Refute it at one input. -/
def turnStepsWrong : ChangeSpec := { name := "turnSteps", fn := fun _ => fun
  | [d] => { results := [.lit (.bool false)], args := [d] }
  | _ => none }
def TurnStepsWrongFalsely : Prop := turnStepsRow.holds Try.pinned (OpenSpec.ofChange turnStepsWrong)

/-- 'lockkeeperlaw17.DimSteps': WHATEVER THE INPUT: true; the input reads as it did. -/
def dimStepsSpec : ChangeSpec := { name := "dimSteps", fn := fun _ => fun
  | [d1, d2, d3] => { results := [.lit (.bool true)], args := [d1, d2, d3] }
  | _ => none }
def dimStepsRow : OpenClaim := { program := "ytjifgeplgohpeaa", sum := "e8cf7338cbf2000444b0d974e31eb304b1805eb9d9a8c8f03f33ea555c104389", func := "lockkeeper/lockkeeperlaw17.DimSteps", spec := "dimSteps", unfollowed := true, recurses := true, apart := false }
def DimStepsSaid : Prop := dimStepsRow.holds Try.pinned (OpenSpec.ofChange dimStepsSpec)

/-- ITS FALSE NEIGHBOUR: 'it returns false'. Refute it at one input. -/
def dimStepsWrong : ChangeSpec := { name := "dimSteps", fn := fun _ => fun
  | [d1, d2, d3] => { results := [.lit (.bool false)], args := [d1, d2, d3] }
  | _ => none }
def DimStepsWrongFalsely : Prop := dimStepsRow.holds Try.pinned (OpenSpec.ofChange dimStepsWrong)

/-- 'lockkeeperlaw17.DimNobody': WHATEVER THE INPUT: true; the input reads as it did. -/
def dimNobodySpec : ChangeSpec := { name := "dimNobody", fn := fun _ => fun
  | [d1, d2, d3] => { results := [.lit (.bool true)], args := [d1, d2, d3] }
  | _ => none }
def dimNobodyRow : OpenClaim := { program := "ytjifgeplgohpeaa", sum := "e8cf7338cbf2000444b0d974e31eb304b1805eb9d9a8c8f03f33ea555c104389", func := "lockkeeper/lockkeeperlaw17.DimNobody", spec := "dimNobody", unfollowed := true, recurses := true, apart := false }
def DimNobodySaid : Prop := dimNobodyRow.holds Try.pinned (OpenSpec.ofChange dimNobodySpec)

/-- ITS FALSE NEIGHBOUR: 'it returns false'. Refute it at one input. -/
def dimNobodyWrong : ChangeSpec := { name := "dimNobody", fn := fun _ => fun
  | [d1, d2, d3] => { results := [.lit (.bool false)], args := [d1, d2, d3] }
  | _ => none }
def DimNobodyWrongFalsely : Prop := dimNobodyRow.holds Try.pinned (OpenSpec.ofChange dimNobodyWrong)

/-- 'lockkeeperlaw11.RankOrders': WHATEVER THE INPUT: true; the input reads as it did. -/
def rankOrdersSpec : ChangeSpec := { name := "rankOrders", fn := fun _ => fun
  | [d1, d2, d3] => { results := [.lit (.bool true)], args := [d1, d2, d3] }
  | _ => none }
def rankOrdersRow : OpenClaim := { program := "ytjifgeplgohpeaa", sum := "e8cf7338cbf2000444b0d974e31eb304b1805eb9d9a8c8f03f33ea555c104389", func := "lockkeeper/lockkeeperlaw11.RankOrders", spec := "rankOrders", unfollowed := true, recurses := true, apart := false }
def RankOrdersSaid : Prop := rankOrdersRow.holds Try.pinned (OpenSpec.ofChange rankOrdersSpec)

/-- ITS FALSE NEIGHBOUR: 'it returns false'. Refute it at one input. -/
def rankOrdersWrong : ChangeSpec := { name := "rankOrders", fn := fun _ => fun
  | [d1, d2, d3] => { results := [.lit (.bool false)], args := [d1, d2, d3] }
  | _ => none }
def RankOrdersWrongFalsely : Prop := rankOrdersRow.holds Try.pinned (OpenSpec.ofChange rankOrdersWrong)

/-- 'lockkeeperlaw10.HistAdds': WHATEVER THE INPUT: true; the input reads as it did. -/
def histAddsSpec : ChangeSpec := { name := "histAdds", fn := fun _ => fun
  | [d1, d2, d3] => { results := [.lit (.bool true)], args := [d1, d2, d3] }
  | _ => none }
def histAddsRow : OpenClaim := { program := "ytjifgeplgohpeaa", sum := "e8cf7338cbf2000444b0d974e31eb304b1805eb9d9a8c8f03f33ea555c104389", func := "lockkeeper/lockkeeperlaw10.HistAdds", spec := "histAdds", unfollowed := true, recurses := true, apart := false }
def HistAddsSaid : Prop := histAddsRow.holds Try.pinned (OpenSpec.ofChange histAddsSpec)

/-- ITS FALSE NEIGHBOUR: 'it returns false'. Refute it at one input. -/
def histAddsWrong : ChangeSpec := { name := "histAdds", fn := fun _ => fun
  | [d1, d2, d3] => { results := [.lit (.bool false)], args := [d1, d2, d3] }
  | _ => none }
def HistAddsWrongFalsely : Prop := histAddsRow.holds Try.pinned (OpenSpec.ofChange histAddsWrong)

/-- 'lockkeeperlaw10.HistPlays': WHATEVER THE INPUT: true; the input reads as it did. -/
def histPlaysSpec : ChangeSpec := { name := "histPlays", fn := fun _ => fun
  | [d1, d2] => { results := [.lit (.bool true)], args := [d1, d2] }
  | _ => none }
def histPlaysRow : OpenClaim := { program := "ytjifgeplgohpeaa", sum := "e8cf7338cbf2000444b0d974e31eb304b1805eb9d9a8c8f03f33ea555c104389", func := "lockkeeper/lockkeeperlaw10.HistPlays", spec := "histPlays", unfollowed := true, recurses := true, apart := false }
def HistPlaysSaid : Prop := histPlaysRow.holds Try.pinned (OpenSpec.ofChange histPlaysSpec)

/-- ITS FALSE NEIGHBOUR: 'it returns false'. Refute it at one input. -/
def histPlaysWrong : ChangeSpec := { name := "histPlays", fn := fun _ => fun
  | [d1, d2] => { results := [.lit (.bool false)], args := [d1, d2] }
  | _ => none }
def HistPlaysWrongFalsely : Prop := histPlaysRow.holds Try.pinned (OpenSpec.ofChange histPlaysWrong)

/-- 'lockkeeperlaw10.HistNobody': WHATEVER THE INPUT: true; the input reads as it did. -/
def histNobodySpec : ChangeSpec := { name := "histNobody", fn := fun _ => fun
  | [d1, d2] => { results := [.lit (.bool true)], args := [d1, d2] }
  | _ => none }
def histNobodyRow : OpenClaim := { program := "ytjifgeplgohpeaa", sum := "e8cf7338cbf2000444b0d974e31eb304b1805eb9d9a8c8f03f33ea555c104389", func := "lockkeeper/lockkeeperlaw10.HistNobody", spec := "histNobody", unfollowed := true, recurses := true, apart := false }
def HistNobodySaid : Prop := histNobodyRow.holds Try.pinned (OpenSpec.ofChange histNobodySpec)

/-- ITS FALSE NEIGHBOUR: 'it returns false'. Refute it at one input. -/
def histNobodyWrong : ChangeSpec := { name := "histNobody", fn := fun _ => fun
  | [d1, d2] => { results := [.lit (.bool false)], args := [d1, d2] }
  | _ => none }
def HistNobodyWrongFalsely : Prop := histNobodyRow.holds Try.pinned (OpenSpec.ofChange histNobodyWrong)

/-- 'lockkeeperlaw15.WalkSteps': WHATEVER THE INPUT: true; the input reads as it did. -/
def walkStepsSpec : ChangeSpec := { name := "walkSteps", fn := fun _ => fun
  | [d1, d2, d3] => { results := [.lit (.bool true)], args := [d1, d2, d3] }
  | _ => none }
def walkStepsRow : OpenClaim := { program := "ytjifgeplgohpeaa", sum := "e8cf7338cbf2000444b0d974e31eb304b1805eb9d9a8c8f03f33ea555c104389", func := "lockkeeper/lockkeeperlaw15.WalkSteps", spec := "walkSteps", unfollowed := true, recurses := true, apart := false }
def WalkStepsSaid : Prop := walkStepsRow.holds Try.pinned (OpenSpec.ofChange walkStepsSpec)

/-- ITS FALSE NEIGHBOUR: 'it returns false'. Refute it at one input. -/
def walkStepsWrong : ChangeSpec := { name := "walkSteps", fn := fun _ => fun
  | [d1, d2, d3] => { results := [.lit (.bool false)], args := [d1, d2, d3] }
  | _ => none }
def WalkStepsWrongFalsely : Prop := walkStepsRow.holds Try.pinned (OpenSpec.ofChange walkStepsWrong)

/- THE SECOND FORM. 'bulk': how many values and letters a reading holds, each counted each time it is reached (what is shared counts as often as it is met; a slice's spare places count too). A statement '..UptoSaid' is the law's where the arguments, and the package variables that the reading takes, are together of bulk at most 1048576: NARROWER than '..Said'. Prove '..Said' where nothing that the law and all that it calls make is longer than what came in: it says more and counts as full. Else prove '..UptoSaid'. A law counts once. -/
mutual
def uptoBulk {H : Type} : DataW H → Nat
  | .lit (.string bytes) => bytes.length + 1
  | .lit _ => 1
  | .nil => 1
  | .ptr d => uptoBulk d + 1
  | .slice elems spare => uptoBulkAll elems + uptoBulkAll spare + 1
  | .agg parts => uptoBulkAll parts + 1
  | .iface _ d => uptoBulk d + 1
  | .map entries => uptoBulkEntries entries + 1
  | .held _ => 1
def uptoBulkAll {H : Type} : List (DataW H) → Nat
  | [] => 0
  | d :: r => uptoBulk d + uptoBulkAll r
def uptoBulkEntries {H : Type} : List (Lit × DataW H) → Nat
  | [] => 0
  | x :: r => uptoBulkEntry x + uptoBulkEntries r
def uptoBulkEntry {H : Type} : Lit × DataW H → Nat
  | (.string bytes, d) => bytes.length + uptoBulk d + 1
  | (_, d) => uptoBulk d + 1
 end
def uptoSmall : (H : Type) → List (DataW H) → Bool := fun _ ds => decide (uptoBulkAll ds ≤ 1048576)
def OpenSpec.upto (s : _root_.Go.ChangeSpec) : _root_.Go.OpenSpec := { _root_.Go.OpenSpec.ofChange s with cond := some uptoSmall }

/-- 'lockkeeperlaw21.TableLearns', WHERE WHAT IT READS IS OF BULK AT MOST 1048576: true; the input reads as it did. -/
def tableLearnsUptoRow : OpenClaim := { program := "ytjifgeplgohpeaa", sum := "e8cf7338cbf2000444b0d974e31eb304b1805eb9d9a8c8f03f33ea555c104389", func := "lockkeeper/lockkeeperlaw21.TableLearns", spec := "tableLearns", unfollowed := true, recurses := true, apart := false, narrowed := true }
def TableLearnsUptoSaid : Prop := tableLearnsUptoRow.holds Try.pinned (OpenSpec.upto tableLearnsSpec)

/-- 'lockkeeperlaw21.TableNobody', WHERE WHAT IT READS IS OF BULK AT MOST 1048576: true; the input reads as it did. -/
def tableNobodyUptoRow : OpenClaim := { program := "ytjifgeplgohpeaa", sum := "e8cf7338cbf2000444b0d974e31eb304b1805eb9d9a8c8f03f33ea555c104389", func := "lockkeeper/lockkeeperlaw21.TableNobody", spec := "tableNobody", unfollowed := true, recurses := true, apart := false, narrowed := true }
def TableNobodyUptoSaid : Prop := tableNobodyUptoRow.holds Try.pinned (OpenSpec.upto tableNobodySpec)

/-- 'lockkeeperlaw16.TurnDwells', WHERE WHAT IT READS IS OF BULK AT MOST 1048576: true; the input reads as it did. -/
def turnDwellsUptoRow : OpenClaim := { program := "ytjifgeplgohpeaa", sum := "e8cf7338cbf2000444b0d974e31eb304b1805eb9d9a8c8f03f33ea555c104389", func := "lockkeeper/lockkeeperlaw16.TurnDwells", spec := "turnDwells", unfollowed := true, recurses := true, apart := false, narrowed := true }
def TurnDwellsUptoSaid : Prop := turnDwellsUptoRow.holds Try.pinned (OpenSpec.upto turnDwellsSpec)

/-- 'lockkeeperlaw17.DimDwells', WHERE WHAT IT READS IS OF BULK AT MOST 1048576: true; the input reads as it did. -/
def dimDwellsUptoRow : OpenClaim := { program := "ytjifgeplgohpeaa", sum := "e8cf7338cbf2000444b0d974e31eb304b1805eb9d9a8c8f03f33ea555c104389", func := "lockkeeper/lockkeeperlaw17.DimDwells", spec := "dimDwells", unfollowed := true, recurses := true, apart := false, narrowed := true }
def DimDwellsUptoSaid : Prop := dimDwellsUptoRow.holds Try.pinned (OpenSpec.upto dimDwellsSpec)

/-- 'lockkeeperlaw16.TurnSteps', WHERE WHAT IT READS IS OF BULK AT MOST 1048576: true; the input reads as it did. -/
def turnStepsUptoRow : OpenClaim := { program := "ytjifgeplgohpeaa", sum := "e8cf7338cbf2000444b0d974e31eb304b1805eb9d9a8c8f03f33ea555c104389", func := "lockkeeper/lockkeeperlaw16.TurnSteps", spec := "turnSteps", unfollowed := true, recurses := true, apart := false, narrowed := true }
def TurnStepsUptoSaid : Prop := turnStepsUptoRow.holds Try.pinned (OpenSpec.upto turnStepsSpec)

/-- 'lockkeeperlaw17.DimSteps', WHERE WHAT IT READS IS OF BULK AT MOST 1048576: true; the input reads as it did. -/
def dimStepsUptoRow : OpenClaim := { program := "ytjifgeplgohpeaa", sum := "e8cf7338cbf2000444b0d974e31eb304b1805eb9d9a8c8f03f33ea555c104389", func := "lockkeeper/lockkeeperlaw17.DimSteps", spec := "dimSteps", unfollowed := true, recurses := true, apart := false, narrowed := true }
def DimStepsUptoSaid : Prop := dimStepsUptoRow.holds Try.pinned (OpenSpec.upto dimStepsSpec)

/-- 'lockkeeperlaw17.DimNobody', WHERE WHAT IT READS IS OF BULK AT MOST 1048576: true; the input reads as it did. -/
def dimNobodyUptoRow : OpenClaim := { program := "ytjifgeplgohpeaa", sum := "e8cf7338cbf2000444b0d974e31eb304b1805eb9d9a8c8f03f33ea555c104389", func := "lockkeeper/lockkeeperlaw17.DimNobody", spec := "dimNobody", unfollowed := true, recurses := true, apart := false, narrowed := true }
def DimNobodyUptoSaid : Prop := dimNobodyUptoRow.holds Try.pinned (OpenSpec.upto dimNobodySpec)

/-- 'lockkeeperlaw11.RankOrders', WHERE WHAT IT READS IS OF BULK AT MOST 1048576: true; the input reads as it did. -/
def rankOrdersUptoRow : OpenClaim := { program := "ytjifgeplgohpeaa", sum := "e8cf7338cbf2000444b0d974e31eb304b1805eb9d9a8c8f03f33ea555c104389", func := "lockkeeper/lockkeeperlaw11.RankOrders", spec := "rankOrders", unfollowed := true, recurses := true, apart := false, narrowed := true }
def RankOrdersUptoSaid : Prop := rankOrdersUptoRow.holds Try.pinned (OpenSpec.upto rankOrdersSpec)

/-- 'lockkeeperlaw10.HistAdds', WHERE WHAT IT READS IS OF BULK AT MOST 1048576: true; the input reads as it did. -/
def histAddsUptoRow : OpenClaim := { program := "ytjifgeplgohpeaa", sum := "e8cf7338cbf2000444b0d974e31eb304b1805eb9d9a8c8f03f33ea555c104389", func := "lockkeeper/lockkeeperlaw10.HistAdds", spec := "histAdds", unfollowed := true, recurses := true, apart := false, narrowed := true }
def HistAddsUptoSaid : Prop := histAddsUptoRow.holds Try.pinned (OpenSpec.upto histAddsSpec)

/-- 'lockkeeperlaw10.HistPlays', WHERE WHAT IT READS IS OF BULK AT MOST 1048576: true; the input reads as it did. -/
def histPlaysUptoRow : OpenClaim := { program := "ytjifgeplgohpeaa", sum := "e8cf7338cbf2000444b0d974e31eb304b1805eb9d9a8c8f03f33ea555c104389", func := "lockkeeper/lockkeeperlaw10.HistPlays", spec := "histPlays", unfollowed := true, recurses := true, apart := false, narrowed := true }
def HistPlaysUptoSaid : Prop := histPlaysUptoRow.holds Try.pinned (OpenSpec.upto histPlaysSpec)

/-- 'lockkeeperlaw10.HistNobody', WHERE WHAT IT READS IS OF BULK AT MOST 1048576: true; the input reads as it did. -/
def histNobodyUptoRow : OpenClaim := { program := "ytjifgeplgohpeaa", sum := "e8cf7338cbf2000444b0d974e31eb304b1805eb9d9a8c8f03f33ea555c104389", func := "lockkeeper/lockkeeperlaw10.HistNobody", spec := "histNobody", unfollowed := true, recurses := true, apart := false, narrowed := true }
def HistNobodyUptoSaid : Prop := histNobodyUptoRow.holds Try.pinned (OpenSpec.upto histNobodySpec)

/-- 'lockkeeperlaw15.WalkSteps', WHERE WHAT IT READS IS OF BULK AT MOST 1048576: true; the input reads as it did. -/
def walkStepsUptoRow : OpenClaim := { program := "ytjifgeplgohpeaa", sum := "e8cf7338cbf2000444b0d974e31eb304b1805eb9d9a8c8f03f33ea555c104389", func := "lockkeeper/lockkeeperlaw15.WalkSteps", spec := "walkSteps", unfollowed := true, recurses := true, apart := false, narrowed := true }
def WalkStepsUptoSaid : Prop := walkStepsUptoRow.holds Try.pinned (OpenSpec.upto walkStepsSpec)

end Rows
end Go.Proofs.Ytjifgeplgohpeaa
