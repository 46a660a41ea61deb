/-
  No cell of these rows narrows 'for every input' (looked for: loops, veiled, ifaces, maps, wideKeys, modest, calm, conditions, laid).
  DERIVED. THE GIVEN ROWS OF THIS SEAT. 12 by the template 'for every input the law returns true; each argument reads behind the call as it read before'; 0 by the template 'total and deterministic' (their statements: YtcanjkcndodgeaaTotals.lean).
  GIVEN WITH THE SEED: the statements are not yours to turn. If you find one false, say at which input.
  Laid BY PROGRAM, IN A SANDBOX (cutbox-rows.mjs): the forced cells as the released guide's own fill.sh prints them over the translation f14a906e21745922… (all of the seat's roots in one cut). By AI agents, Wed Nov 11 2026. No macro, syntax, notation, axiom, sorry.
-/
import Derived.Test.YtcanjkcndodgeaaChecked
import GoSem.Claim
import GoSem.ClaimJoined
import GoSem.ClaimMapViews
import Derived.JoinedTies
import Derived.KernelRfl
namespace Go.Proofs.Ytcanjkcndodgeaa
/- THE CELL 'sum', in the pinned program and in every row, IS THE sha256 OF THE DUMP (.gsa) THAT YtcanjkcndodgeaaProg.lean LOADS. Nothing in Lean hashes anything: it is a label: what it is worth is what the hold of that sum in a sandbox is worth. -/
noncomputable def Try.pinned : Pinned := { name := "ytcanjkcndodgeaa", sum := "f14a906e21745922569c8a4808894428415e2957e5b58018dbd0e20a3d2256aa", checked := Try.checked }
namespace Rows
def none {H : Type} : Left H := { results := [], args := [] }

/-- 'lockkeeperlaw01.BoundKeeps': WHATEVER THE INPUT: true; the input reads as it did. -/
def boundKeepsSpec : ChangeSpec := { name := "boundKeeps", fn := fun _ => fun
  | [d1, d2] => { results := [.lit (.bool true)], args := [d1, d2] }
  | _ => none }
def boundKeepsRow : OpenClaim := { program := "ytcanjkcndodgeaa", sum := "f14a906e21745922569c8a4808894428415e2957e5b58018dbd0e20a3d2256aa", func := "lockkeeper/lockkeeperlaw01.BoundKeeps", spec := "boundKeeps", unfollowed := true, recurses := true, apart := false }
def BoundKeepsSaid : Prop := boundKeepsRow.holds Try.pinned (OpenSpec.ofChange boundKeepsSpec)

/-- ITS FALSE NEIGHBOUR: 'it returns false'. Refute it at one input. -/
def boundKeepsWrong : ChangeSpec := { name := "boundKeeps", fn := fun _ => fun
  | [d1, d2] => { results := [.lit (.bool false)], args := [d1, d2] }
  | _ => none }
def BoundKeepsWrongFalsely : Prop := boundKeepsRow.holds Try.pinned (OpenSpec.ofChange boundKeepsWrong)

/-- 'lockkeeperlaw01.BoundShares': WHATEVER THE INPUT: true; the input reads as it did. -/
def boundSharesSpec : ChangeSpec := { name := "boundShares", fn := fun _ => fun
  | [d1, d2, d3] => { results := [.lit (.bool true)], args := [d1, d2, d3] }
  | _ => none }
def boundSharesRow : OpenClaim := { program := "ytcanjkcndodgeaa", sum := "f14a906e21745922569c8a4808894428415e2957e5b58018dbd0e20a3d2256aa", func := "lockkeeper/lockkeeperlaw01.BoundShares", spec := "boundShares", unfollowed := true, recurses := true, apart := false }
def BoundSharesSaid : Prop := boundSharesRow.holds Try.pinned (OpenSpec.ofChange boundSharesSpec)

/-- ITS FALSE NEIGHBOUR: 'it returns false'. Refute it at one input. -/
def boundSharesWrong : ChangeSpec := { name := "boundShares", fn := fun _ => fun
  | [d1, d2, d3] => { results := [.lit (.bool false)], args := [d1, d2, d3] }
  | _ => none }
def BoundSharesWrongFalsely : Prop := boundSharesRow.holds Try.pinned (OpenSpec.ofChange boundSharesWrong)

/-- 'lockkeeperlaw01.BoundTicks': WHATEVER THE INPUT: true; the input reads as it did. -/
def boundTicksSpec : ChangeSpec := { name := "boundTicks", fn := fun _ => fun
  | [d1, d2] => { results := [.lit (.bool true)], args := [d1, d2] }
  | _ => none }
def boundTicksRow : OpenClaim := { program := "ytcanjkcndodgeaa", sum := "f14a906e21745922569c8a4808894428415e2957e5b58018dbd0e20a3d2256aa", func := "lockkeeper/lockkeeperlaw01.BoundTicks", spec := "boundTicks", unfollowed := true, recurses := true, apart := false }
def BoundTicksSaid : Prop := boundTicksRow.holds Try.pinned (OpenSpec.ofChange boundTicksSpec)

/-- ITS FALSE NEIGHBOUR: 'it returns false'. Refute it at one input. -/
def boundTicksWrong : ChangeSpec := { name := "boundTicks", fn := fun _ => fun
  | [d1, d2] => { results := [.lit (.bool false)], args := [d1, d2] }
  | _ => none }
def BoundTicksWrongFalsely : Prop := boundTicksRow.holds Try.pinned (OpenSpec.ofChange boundTicksWrong)

/-- 'lockkeeperlaw01.BoundSums': WHATEVER THE INPUT: true; the input reads as it did. -/
def boundSumsSpec : ChangeSpec := { name := "boundSums", fn := fun _ => fun
  | [d1, d2] => { results := [.lit (.bool true)], args := [d1, d2] }
  | _ => none }
def boundSumsRow : OpenClaim := { program := "ytcanjkcndodgeaa", sum := "f14a906e21745922569c8a4808894428415e2957e5b58018dbd0e20a3d2256aa", func := "lockkeeper/lockkeeperlaw01.BoundSums", spec := "boundSums", unfollowed := true, recurses := true, apart := false }
def BoundSumsSaid : Prop := boundSumsRow.holds Try.pinned (OpenSpec.ofChange boundSumsSpec)

/-- ITS FALSE NEIGHBOUR: 'it returns false'. Refute it at one input. -/
def boundSumsWrong : ChangeSpec := { name := "boundSums", fn := fun _ => fun
  | [d1, d2] => { results := [.lit (.bool false)], args := [d1, d2] }
  | _ => none }
def BoundSumsWrongFalsely : Prop := boundSumsRow.holds Try.pinned (OpenSpec.ofChange boundSumsWrong)

/-- 'lockkeeperlaw22.SplitCalls': WHATEVER THE INPUT: true; the input reads as it did. -/
def splitCallsSpec : ChangeSpec := { name := "splitCalls", fn := fun _ => fun
  | [d1, d2, d3] => { results := [.lit (.bool true)], args := [d1, d2, d3] }
  | _ => none }
def splitCallsRow : OpenClaim := { program := "ytcanjkcndodgeaa", sum := "f14a906e21745922569c8a4808894428415e2957e5b58018dbd0e20a3d2256aa", func := "lockkeeper/lockkeeperlaw22.SplitCalls", spec := "splitCalls", unfollowed := true, recurses := true, apart := false }
def SplitCallsSaid : Prop := splitCallsRow.holds Try.pinned (OpenSpec.ofChange splitCallsSpec)

/-- ITS FALSE NEIGHBOUR: 'it returns false'. Refute it at one input. -/
def splitCallsWrong : ChangeSpec := { name := "splitCalls", fn := fun _ => fun
  | [d1, d2, d3] => { results := [.lit (.bool false)], args := [d1, d2, d3] }
  | _ => none }
def SplitCallsWrongFalsely : Prop := splitCallsRow.holds Try.pinned (OpenSpec.ofChange splitCallsWrong)

/-- 'lockkeeperlaw22.SplitWithin': WHATEVER THE INPUT: true; the input reads as it did. -/
def splitWithinSpec : ChangeSpec := { name := "splitWithin", fn := fun _ => fun
  | [d1, d2, d3] => { results := [.lit (.bool true)], args := [d1, d2, d3] }
  | _ => none }
def splitWithinRow : OpenClaim := { program := "ytcanjkcndodgeaa", sum := "f14a906e21745922569c8a4808894428415e2957e5b58018dbd0e20a3d2256aa", func := "lockkeeper/lockkeeperlaw22.SplitWithin", spec := "splitWithin", unfollowed := true, recurses := true, apart := false }
def SplitWithinSaid : Prop := splitWithinRow.holds Try.pinned (OpenSpec.ofChange splitWithinSpec)

/-- ITS FALSE NEIGHBOUR: 'it returns false'. Refute it at one input. -/
def splitWithinWrong : ChangeSpec := { name := "splitWithin", fn := fun _ => fun
  | [d1, d2, d3] => { results := [.lit (.bool false)], args := [d1, d2, d3] }
  | _ => none }
def SplitWithinWrongFalsely : Prop := splitWithinRow.holds Try.pinned (OpenSpec.ofChange splitWithinWrong)

/-- 'lockkeeperlaw22.SplitChains': WHATEVER THE INPUT: true; the input reads as it did. -/
def splitChainsSpec : ChangeSpec := { name := "splitChains", fn := fun _ => fun
  | [d1, d2, d3] => { results := [.lit (.bool true)], args := [d1, d2, d3] }
  | _ => none }
def splitChainsRow : OpenClaim := { program := "ytcanjkcndodgeaa", sum := "f14a906e21745922569c8a4808894428415e2957e5b58018dbd0e20a3d2256aa", func := "lockkeeper/lockkeeperlaw22.SplitChains", spec := "splitChains", unfollowed := true, recurses := true, apart := false }
def SplitChainsSaid : Prop := splitChainsRow.holds Try.pinned (OpenSpec.ofChange splitChainsSpec)

/-- ITS FALSE NEIGHBOUR: 'it returns false'. Refute it at one input. -/
def splitChainsWrong : ChangeSpec := { name := "splitChains", fn := fun _ => fun
  | [d1, d2, d3] => { results := [.lit (.bool false)], args := [d1, d2, d3] }
  | _ => none }
def SplitChainsWrongFalsely : Prop := splitChainsRow.holds Try.pinned (OpenSpec.ofChange splitChainsWrong)

/-- 'lockkeeperlaw21.TableNewest': WHATEVER THE INPUT: true; the input reads as it did. -/
def tableNewestSpec : ChangeSpec := { name := "tableNewest", fn := fun _ => fun
  | [d] => { results := [.lit (.bool true)], args := [d] }
  | _ => none }
def tableNewestRow : OpenClaim := { program := "ytcanjkcndodgeaa", sum := "f14a906e21745922569c8a4808894428415e2957e5b58018dbd0e20a3d2256aa", func := "lockkeeper/lockkeeperlaw21.TableNewest", spec := "tableNewest", unfollowed := true, recurses := true, apart := false }
def TableNewestSaid : Prop := tableNewestRow.holds Try.pinned (OpenSpec.ofChange tableNewestSpec)

/-- ITS FALSE NEIGHBOUR: 'it returns false'. Refute it at one input. -/
def tableNewestWrong : ChangeSpec := { name := "tableNewest", fn := fun _ => fun
  | [d] => { results := [.lit (.bool false)], args := [d] }
  | _ => none }
def TableNewestWrongFalsely : Prop := tableNewestRow.holds Try.pinned (OpenSpec.ofChange tableNewestWrong)

/-- 'lockkeeperlaw19.CalmTells': WHATEVER THE INPUT: true; the input reads as it did. -/
def calmTellsSpec : ChangeSpec := { name := "calmTells", fn := fun _ => fun
  | [d1, d2, d3] => { results := [.lit (.bool true)], args := [d1, d2, d3] }
  | _ => none }
def calmTellsRow : OpenClaim := { program := "ytcanjkcndodgeaa", sum := "f14a906e21745922569c8a4808894428415e2957e5b58018dbd0e20a3d2256aa", func := "lockkeeper/lockkeeperlaw19.CalmTells", spec := "calmTells", unfollowed := true, recurses := true, apart := false }
def CalmTellsSaid : Prop := calmTellsRow.holds Try.pinned (OpenSpec.ofChange calmTellsSpec)

/-- ITS FALSE NEIGHBOUR: 'it returns false'. Refute it at one input. -/
def calmTellsWrong : ChangeSpec := { name := "calmTells", fn := fun _ => fun
  | [d1, d2, d3] => { results := [.lit (.bool false)], args := [d1, d2, d3] }
  | _ => none }
def CalmTellsWrongFalsely : Prop := calmTellsRow.holds Try.pinned (OpenSpec.ofChange calmTellsWrong)

/-- 'lockkeeperlaw19.CalmGrows': WHATEVER THE INPUT: true; the input reads as it did. -/
def calmGrowsSpec : ChangeSpec := { name := "calmGrows", fn := fun _ => fun
  | [d1, d2, d3] => { results := [.lit (.bool true)], args := [d1, d2, d3] }
  | _ => none }
def calmGrowsRow : OpenClaim := { program := "ytcanjkcndodgeaa", sum := "f14a906e21745922569c8a4808894428415e2957e5b58018dbd0e20a3d2256aa", func := "lockkeeper/lockkeeperlaw19.CalmGrows", spec := "calmGrows", unfollowed := true, recurses := true, apart := false }
def CalmGrowsSaid : Prop := calmGrowsRow.holds Try.pinned (OpenSpec.ofChange calmGrowsSpec)

/-- ITS FALSE NEIGHBOUR: 'it returns false'. Refute it at one input. -/
def calmGrowsWrong : ChangeSpec := { name := "calmGrows", fn := fun _ => fun
  | [d1, d2, d3] => { results := [.lit (.bool false)], args := [d1, d2, d3] }
  | _ => none }
def CalmGrowsWrongFalsely : Prop := calmGrowsRow.holds Try.pinned (OpenSpec.ofChange calmGrowsWrong)

/-- 'lockkeeperlaw14.LoadMean': WHATEVER THE INPUT: true; the input reads as it did. -/
def loadMeanSpec : ChangeSpec := { name := "loadMean", fn := fun _ => fun
  | [d1, d2] => { results := [.lit (.bool true)], args := [d1, d2] }
  | _ => none }
def loadMeanRow : OpenClaim := { program := "ytcanjkcndodgeaa", sum := "f14a906e21745922569c8a4808894428415e2957e5b58018dbd0e20a3d2256aa", func := "lockkeeper/lockkeeperlaw14.LoadMean", spec := "loadMean", unfollowed := true, recurses := true, apart := false }
def LoadMeanSaid : Prop := loadMeanRow.holds Try.pinned (OpenSpec.ofChange loadMeanSpec)

/-- ITS FALSE NEIGHBOUR: 'it returns false'. Refute it at one input. -/
def loadMeanWrong : ChangeSpec := { name := "loadMean", fn := fun _ => fun
  | [d1, d2] => { results := [.lit (.bool false)], args := [d1, d2] }
  | _ => none }
def LoadMeanWrongFalsely : Prop := loadMeanRow.holds Try.pinned (OpenSpec.ofChange loadMeanWrong)

/-- 'lockkeeperlaw14.LoadCounts': WHATEVER THE INPUT: true; the input reads as it did. -/
def loadCountsSpec : ChangeSpec := { name := "loadCounts", fn := fun _ => fun
  | [d1, d2, d3] => { results := [.lit (.bool true)], args := [d1, d2, d3] }
  | _ => none }
def loadCountsRow : OpenClaim := { program := "ytcanjkcndodgeaa", sum := "f14a906e21745922569c8a4808894428415e2957e5b58018dbd0e20a3d2256aa", func := "lockkeeper/lockkeeperlaw14.LoadCounts", spec := "loadCounts", unfollowed := true, recurses := true, apart := false }
def LoadCountsSaid : Prop := loadCountsRow.holds Try.pinned (OpenSpec.ofChange loadCountsSpec)

/-- ITS FALSE NEIGHBOUR: 'it returns false'. Refute it at one input. -/
def loadCountsWrong : ChangeSpec := { name := "loadCounts", fn := fun _ => fun
  | [d1, d2, d3] => { results := [.lit (.bool false)], args := [d1, d2, d3] }
  | _ => none }
def LoadCountsWrongFalsely : Prop := loadCountsRow.holds Try.pinned (OpenSpec.ofChange loadCountsWrong)

/- THE SECOND FORM. 'bulk': how many values and letters a reading holds, each counted each time it is reached (what is shared counts as often as it is met; a slice's spare places count too). A statement '..UptoSaid' is the law's where the arguments, and the package variables that the reading takes, are together of bulk at most 1048576: NARROWER than '..Said'. Prove '..Said' where nothing that the law and all that it calls make is longer than what came in: it says more and counts as full. Else prove '..UptoSaid'. A law counts once. -/
mutual
def uptoBulk {H : Type} : DataW H → Nat
  | .lit (.string bytes) => bytes.length + 1
  | .lit _ => 1
  | .nil => 1
  | .ptr d => uptoBulk d + 1
  | .slice elems spare => uptoBulkAll elems + uptoBulkAll spare + 1
  | .agg parts => uptoBulkAll parts + 1
  | .iface _ d => uptoBulk d + 1
  | .map entries => uptoBulkEntries entries + 1
  | .held _ => 1
def uptoBulkAll {H : Type} : List (DataW H) → Nat
  | [] => 0
  | d :: r => uptoBulk d + uptoBulkAll r
def uptoBulkEntries {H : Type} : List (Lit × DataW H) → Nat
  | [] => 0
  | x :: r => uptoBulkEntry x + uptoBulkEntries r
def uptoBulkEntry {H : Type} : Lit × DataW H → Nat
  | (.string bytes, d) => bytes.length + uptoBulk d + 1
  | (_, d) => uptoBulk d + 1
 end
def uptoSmall : (H : Type) → List (DataW H) → Bool := fun _ ds => decide (uptoBulkAll ds ≤ 1048576)
def OpenSpec.upto (s : _root_.Go.ChangeSpec) : _root_.Go.OpenSpec := { _root_.Go.OpenSpec.ofChange s with cond := some uptoSmall }

/-- 'lockkeeperlaw01.BoundKeeps', WHERE WHAT IT READS IS OF BULK AT MOST 1048576: true; the input reads as it did. -/
def boundKeepsUptoRow : OpenClaim := { program := "ytcanjkcndodgeaa", sum := "f14a906e21745922569c8a4808894428415e2957e5b58018dbd0e20a3d2256aa", func := "lockkeeper/lockkeeperlaw01.BoundKeeps", spec := "boundKeeps", unfollowed := true, recurses := true, apart := false, narrowed := true }
def BoundKeepsUptoSaid : Prop := boundKeepsUptoRow.holds Try.pinned (OpenSpec.upto boundKeepsSpec)

/-- 'lockkeeperlaw01.BoundShares', WHERE WHAT IT READS IS OF BULK AT MOST 1048576: true; the input reads as it did. -/
def boundSharesUptoRow : OpenClaim := { program := "ytcanjkcndodgeaa", sum := "f14a906e21745922569c8a4808894428415e2957e5b58018dbd0e20a3d2256aa", func := "lockkeeper/lockkeeperlaw01.BoundShares", spec := "boundShares", unfollowed := true, recurses := true, apart := false, narrowed := true }
def BoundSharesUptoSaid : Prop := boundSharesUptoRow.holds Try.pinned (OpenSpec.upto boundSharesSpec)

/-- 'lockkeeperlaw01.BoundTicks', WHERE WHAT IT READS IS OF BULK AT MOST 1048576: true; the input reads as it did. -/
def boundTicksUptoRow : OpenClaim := { program := "ytcanjkcndodgeaa", sum := "f14a906e21745922569c8a4808894428415e2957e5b58018dbd0e20a3d2256aa", func := "lockkeeper/lockkeeperlaw01.BoundTicks", spec := "boundTicks", unfollowed := true, recurses := true, apart := false, narrowed := true }
def BoundTicksUptoSaid : Prop := boundTicksUptoRow.holds Try.pinned (OpenSpec.upto boundTicksSpec)

/-- 'lockkeeperlaw01.BoundSums', WHERE WHAT IT READS IS OF BULK AT MOST 1048576: true; the input reads as it did. -/
def boundSumsUptoRow : OpenClaim := { program := "ytcanjkcndodgeaa", sum := "f14a906e21745922569c8a4808894428415e2957e5b58018dbd0e20a3d2256aa", func := "lockkeeper/lockkeeperlaw01.BoundSums", spec := "boundSums", unfollowed := true, recurses := true, apart := false, narrowed := true }
def BoundSumsUptoSaid : Prop := boundSumsUptoRow.holds Try.pinned (OpenSpec.upto boundSumsSpec)

/-- 'lockkeeperlaw22.SplitCalls', WHERE WHAT IT READS IS OF BULK AT MOST 1048576: true; the input reads as it did. -/
def splitCallsUptoRow : OpenClaim := { program := "ytcanjkcndodgeaa", sum := "f14a906e21745922569c8a4808894428415e2957e5b58018dbd0e20a3d2256aa", func := "lockkeeper/lockkeeperlaw22.SplitCalls", spec := "splitCalls", unfollowed := true, recurses := true, apart := false, narrowed := true }
def SplitCallsUptoSaid : Prop := splitCallsUptoRow.holds Try.pinned (OpenSpec.upto splitCallsSpec)

/-- 'lockkeeperlaw22.SplitWithin', WHERE WHAT IT READS IS OF BULK AT MOST 1048576: true; the input reads as it did. -/
def splitWithinUptoRow : OpenClaim := { program := "ytcanjkcndodgeaa", sum := "f14a906e21745922569c8a4808894428415e2957e5b58018dbd0e20a3d2256aa", func := "lockkeeper/lockkeeperlaw22.SplitWithin", spec := "splitWithin", unfollowed := true, recurses := true, apart := false, narrowed := true }
def SplitWithinUptoSaid : Prop := splitWithinUptoRow.holds Try.pinned (OpenSpec.upto splitWithinSpec)

/-- 'lockkeeperlaw22.SplitChains', WHERE WHAT IT READS IS OF BULK AT MOST 1048576: true; the input reads as it did. -/
def splitChainsUptoRow : OpenClaim := { program := "ytcanjkcndodgeaa", sum := "f14a906e21745922569c8a4808894428415e2957e5b58018dbd0e20a3d2256aa", func := "lockkeeper/lockkeeperlaw22.SplitChains", spec := "splitChains", unfollowed := true, recurses := true, apart := false, narrowed := true }
def SplitChainsUptoSaid : Prop := splitChainsUptoRow.holds Try.pinned (OpenSpec.upto splitChainsSpec)

/-- 'lockkeeperlaw21.TableNewest', WHERE WHAT IT READS IS OF BULK AT MOST 1048576: true; the input reads as it did. -/
def tableNewestUptoRow : OpenClaim := { program := "ytcanjkcndodgeaa", sum := "f14a906e21745922569c8a4808894428415e2957e5b58018dbd0e20a3d2256aa", func := "lockkeeper/lockkeeperlaw21.TableNewest", spec := "tableNewest", unfollowed := true, recurses := true, apart := false, narrowed := true }
def TableNewestUptoSaid : Prop := tableNewestUptoRow.holds Try.pinned (OpenSpec.upto tableNewestSpec)

/-- 'lockkeeperlaw19.CalmTells', WHERE WHAT IT READS IS OF BULK AT MOST 1048576: true; the input reads as it did. -/
def calmTellsUptoRow : OpenClaim := { program := "ytcanjkcndodgeaa", sum := "f14a906e21745922569c8a4808894428415e2957e5b58018dbd0e20a3d2256aa", func := "lockkeeper/lockkeeperlaw19.CalmTells", spec := "calmTells", unfollowed := true, recurses := true, apart := false, narrowed := true }
def CalmTellsUptoSaid : Prop := calmTellsUptoRow.holds Try.pinned (OpenSpec.upto calmTellsSpec)

/-- 'lockkeeperlaw19.CalmGrows', WHERE WHAT IT READS IS OF BULK AT MOST 1048576: true; the input reads as it did. -/
def calmGrowsUptoRow : OpenClaim := { program := "ytcanjkcndodgeaa", sum := "f14a906e21745922569c8a4808894428415e2957e5b58018dbd0e20a3d2256aa", func := "lockkeeper/lockkeeperlaw19.CalmGrows", spec := "calmGrows", unfollowed := true, recurses := true, apart := false, narrowed := true }
def CalmGrowsUptoSaid : Prop := calmGrowsUptoRow.holds Try.pinned (OpenSpec.upto calmGrowsSpec)

/-- 'lockkeeperlaw14.LoadMean', WHERE WHAT IT READS IS OF BULK AT MOST 1048576: true; the input reads as it did. -/
def loadMeanUptoRow : OpenClaim := { program := "ytcanjkcndodgeaa", sum := "f14a906e21745922569c8a4808894428415e2957e5b58018dbd0e20a3d2256aa", func := "lockkeeper/lockkeeperlaw14.LoadMean", spec := "loadMean", unfollowed := true, recurses := true, apart := false, narrowed := true }
def LoadMeanUptoSaid : Prop := loadMeanUptoRow.holds Try.pinned (OpenSpec.upto loadMeanSpec)

/-- 'lockkeeperlaw14.LoadCounts', WHERE WHAT IT READS IS OF BULK AT MOST 1048576: true; the input reads as it did. -/
def loadCountsUptoRow : OpenClaim := { program := "ytcanjkcndodgeaa", sum := "f14a906e21745922569c8a4808894428415e2957e5b58018dbd0e20a3d2256aa", func := "lockkeeper/lockkeeperlaw14.LoadCounts", spec := "loadCounts", unfollowed := true, recurses := true, apart := false, narrowed := true }
def LoadCountsUptoSaid : Prop := loadCountsUptoRow.holds Try.pinned (OpenSpec.upto loadCountsSpec)

end Rows
end Go.Proofs.Ytcanjkcndodgeaa
