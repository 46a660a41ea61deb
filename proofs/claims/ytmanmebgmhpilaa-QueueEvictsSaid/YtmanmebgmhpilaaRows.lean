/-
  No cell of these rows narrows 'for every input' (looked for: loops, veiled, ifaces, maps, wideKeys, modest, calm, conditions, laid).
  DERIVED. THE GIVEN ROWS OF THIS SEAT. 7 by the template 'for every input the law returns true; each argument reads behind the call as it read before'; 0 by the template 'total and deterministic' (their statements: YtmanmebgmhpilaaTotals.lean).
  GIVEN WITH THE SEED: the statements are not yours to turn. If you find one false, say at which input.
  Laid BY PROGRAM, IN A SANDBOX (cutbox-rows.mjs): the forced cells as the released guide's own fill.sh prints them over the translation 03e23b68b5161466… (all of the seat's roots in one cut). By AI agents, Wed Nov 11 2026. No macro, syntax, notation, axiom, sorry.
-/
import Derived.Test.YtmanmebgmhpilaaChecked
import GoSem.Claim
import GoSem.ClaimJoined
import GoSem.ClaimMapViews
import Derived.JoinedTies
import Derived.KernelRfl
namespace Go.Proofs.Ytmanmebgmhpilaa
/- THE CELL 'sum', in the pinned program and in every row, IS THE sha256 OF THE DUMP (.gsa) THAT YtmanmebgmhpilaaProg.lean LOADS. Nothing in Lean hashes anything: it is a label: what it is worth is what the hold of that sum in a sandbox is worth. -/
noncomputable def Try.pinned : Pinned := { name := "ytmanmebgmhpilaa", sum := "03e23b68b51614668045aeb99a48346e20c5b6b15b5f1c67e6b96fc895815812", checked := Try.checked }
namespace Rows
def none {H : Type} : Left H := { results := [], args := [] }

/-- 'lockkeeperlaw12.PileSorts': WHATEVER THE INPUT: true; the input reads as it did. -/
def pileSortsSpec : ChangeSpec := { name := "pileSorts", fn := fun _ => fun
  | [d1, d2] => { results := [.lit (.bool true)], args := [d1, d2] }
  | _ => none }
def pileSortsRow : OpenClaim := { program := "ytmanmebgmhpilaa", sum := "03e23b68b51614668045aeb99a48346e20c5b6b15b5f1c67e6b96fc895815812", func := "lockkeeper/lockkeeperlaw12.PileSorts", spec := "pileSorts", apart := false }
def PileSortsSaid : Prop := pileSortsRow.holds Try.pinned (OpenSpec.ofChange pileSortsSpec)

/-- ITS FALSE NEIGHBOUR: 'it returns false'. Refute it at one input. -/
def pileSortsWrong : ChangeSpec := { name := "pileSorts", fn := fun _ => fun
  | [d1, d2] => { results := [.lit (.bool false)], args := [d1, d2] }
  | _ => none }
def PileSortsWrongFalsely : Prop := pileSortsRow.holds Try.pinned (OpenSpec.ofChange pileSortsWrong)

/-- 'lockkeeperlaw11.RankSorts': WHATEVER THE INPUT: true; the input reads as it did. -/
def rankSortsSpec : ChangeSpec := { name := "rankSorts", fn := fun _ => fun
  | [d] => { results := [.lit (.bool true)], args := [d] }
  | _ => none }
def rankSortsRow : OpenClaim := { program := "ytmanmebgmhpilaa", sum := "03e23b68b51614668045aeb99a48346e20c5b6b15b5f1c67e6b96fc895815812", func := "lockkeeper/lockkeeperlaw11.RankSorts", spec := "rankSorts", unfollowed := true, recurses := true, apart := false }
def RankSortsSaid : Prop := rankSortsRow.holds Try.pinned (OpenSpec.ofChange rankSortsSpec)

/-- ITS FALSE NEIGHBOUR: 'it returns false'. Refute it at one input. -/
def rankSortsWrong : ChangeSpec := { name := "rankSorts", fn := fun _ => fun
  | [d] => { results := [.lit (.bool false)], args := [d] }
  | _ => none }
def RankSortsWrongFalsely : Prop := rankSortsRow.holds Try.pinned (OpenSpec.ofChange rankSortsWrong)

/-- 'lockkeeperlaw12.PilePlays': WHATEVER THE INPUT: true; the input reads as it did. -/
def pilePlaysSpec : ChangeSpec := { name := "pilePlays", fn := fun _ => fun
  | [d1, d2] => { results := [.lit (.bool true)], args := [d1, d2] }
  | _ => none }
def pilePlaysRow : OpenClaim := { program := "ytmanmebgmhpilaa", sum := "03e23b68b51614668045aeb99a48346e20c5b6b15b5f1c67e6b96fc895815812", func := "lockkeeper/lockkeeperlaw12.PilePlays", spec := "pilePlays", unfollowed := true, recurses := true, apart := false }
def PilePlaysSaid : Prop := pilePlaysRow.holds Try.pinned (OpenSpec.ofChange pilePlaysSpec)

/-- ITS FALSE NEIGHBOUR: 'it returns false'. Refute it at one input. -/
def pilePlaysWrong : ChangeSpec := { name := "pilePlays", fn := fun _ => fun
  | [d1, d2] => { results := [.lit (.bool false)], args := [d1, d2] }
  | _ => none }
def PilePlaysWrongFalsely : Prop := pilePlaysRow.holds Try.pinned (OpenSpec.ofChange pilePlaysWrong)

/-- 'lockkeeperlaw12.PileNobody': WHATEVER THE INPUT: true; the input reads as it did. -/
def pileNobodySpec : ChangeSpec := { name := "pileNobody", fn := fun _ => fun
  | [d] => { results := [.lit (.bool true)], args := [d] }
  | _ => none }
def pileNobodyRow : OpenClaim := { program := "ytmanmebgmhpilaa", sum := "03e23b68b51614668045aeb99a48346e20c5b6b15b5f1c67e6b96fc895815812", func := "lockkeeper/lockkeeperlaw12.PileNobody", spec := "pileNobody", unfollowed := true, recurses := true, apart := false }
def PileNobodySaid : Prop := pileNobodyRow.holds Try.pinned (OpenSpec.ofChange pileNobodySpec)

/-- ITS FALSE NEIGHBOUR: 'it returns false'. Refute it at one input. -/
def pileNobodyWrong : ChangeSpec := { name := "pileNobody", fn := fun _ => fun
  | [d] => { results := [.lit (.bool false)], args := [d] }
  | _ => none }
def PileNobodyWrongFalsely : Prop := pileNobodyRow.holds Try.pinned (OpenSpec.ofChange pileNobodyWrong)

/-- 'lockkeeperlaw13.QueueEvicts': WHATEVER THE INPUT: true; the input reads as it did. -/
def queueEvictsSpec : ChangeSpec := { name := "queueEvicts", fn := fun _ => fun
  | [d1, d2] => { results := [.lit (.bool true)], args := [d1, d2] }
  | _ => none }
def queueEvictsRow : OpenClaim := { program := "ytmanmebgmhpilaa", sum := "03e23b68b51614668045aeb99a48346e20c5b6b15b5f1c67e6b96fc895815812", func := "lockkeeper/lockkeeperlaw13.QueueEvicts", spec := "queueEvicts", unfollowed := true, recurses := true, apart := false }
def QueueEvictsSaid : Prop := queueEvictsRow.holds Try.pinned (OpenSpec.ofChange queueEvictsSpec)

/-- ITS FALSE NEIGHBOUR: 'it returns false'. Refute it at one input. -/
def queueEvictsWrong : ChangeSpec := { name := "queueEvicts", fn := fun _ => fun
  | [d1, d2] => { results := [.lit (.bool false)], args := [d1, d2] }
  | _ => none }
def QueueEvictsWrongFalsely : Prop := queueEvictsRow.holds Try.pinned (OpenSpec.ofChange queueEvictsWrong)

/-- 'lockkeeperlaw13.QueuePlays': WHATEVER THE INPUT: true; the input reads as it did. -/
def queuePlaysSpec : ChangeSpec := { name := "queuePlays", fn := fun _ => fun
  | [d1, d2] => { results := [.lit (.bool true)], args := [d1, d2] }
  | _ => none }
def queuePlaysRow : OpenClaim := { program := "ytmanmebgmhpilaa", sum := "03e23b68b51614668045aeb99a48346e20c5b6b15b5f1c67e6b96fc895815812", func := "lockkeeper/lockkeeperlaw13.QueuePlays", spec := "queuePlays", unfollowed := true, recurses := true, apart := false }
def QueuePlaysSaid : Prop := queuePlaysRow.holds Try.pinned (OpenSpec.ofChange queuePlaysSpec)

/-- ITS FALSE NEIGHBOUR: 'it returns false'. Refute it at one input. -/
def queuePlaysWrong : ChangeSpec := { name := "queuePlays", fn := fun _ => fun
  | [d1, d2] => { results := [.lit (.bool false)], args := [d1, d2] }
  | _ => none }
def QueuePlaysWrongFalsely : Prop := queuePlaysRow.holds Try.pinned (OpenSpec.ofChange queuePlaysWrong)

/-- 'lockkeeperlaw13.QueueNobody': WHATEVER THE INPUT: true; the input reads as it did. -/
def queueNobodySpec : ChangeSpec := { name := "queueNobody", fn := fun _ => fun
  | [d1, d2] => { results := [.lit (.bool true)], args := [d1, d2] }
  | _ => none }
def queueNobodyRow : OpenClaim := { program := "ytmanmebgmhpilaa", sum := "03e23b68b51614668045aeb99a48346e20c5b6b15b5f1c67e6b96fc895815812", func := "lockkeeper/lockkeeperlaw13.QueueNobody", spec := "queueNobody", unfollowed := true, recurses := true, apart := false }
def QueueNobodySaid : Prop := queueNobodyRow.holds Try.pinned (OpenSpec.ofChange queueNobodySpec)

/-- ITS FALSE NEIGHBOUR: 'it returns false'. Refute it at one input. -/
def queueNobodyWrong : ChangeSpec := { name := "queueNobody", fn := fun _ => fun
  | [d1, d2] => { results := [.lit (.bool false)], args := [d1, d2] }
  | _ => none }
def QueueNobodyWrongFalsely : Prop := queueNobodyRow.holds Try.pinned (OpenSpec.ofChange queueNobodyWrong)

/- THE SECOND FORM. 'bulk': how many values and letters a reading holds, each counted each time it is reached (what is shared counts as often as it is met; a slice's spare places count too). A statement '..UptoSaid' is the law's where the arguments, and the package variables that the reading takes, are together of bulk at most 1048576: NARROWER than '..Said'. Prove '..Said' where nothing that the law and all that it calls make is longer than what came in: it says more and counts as full. Else prove '..UptoSaid'. A law counts once. -/
mutual
def uptoBulk {H : Type} : DataW H → Nat
  | .lit (.string bytes) => bytes.length + 1
  | .lit _ => 1
  | .nil => 1
  | .ptr d => uptoBulk d + 1
  | .slice elems spare => uptoBulkAll elems + uptoBulkAll spare + 1
  | .agg parts => uptoBulkAll parts + 1
  | .iface _ d => uptoBulk d + 1
  | .map entries => uptoBulkEntries entries + 1
  | .held _ => 1
def uptoBulkAll {H : Type} : List (DataW H) → Nat
  | [] => 0
  | d :: r => uptoBulk d + uptoBulkAll r
def uptoBulkEntries {H : Type} : List (Lit × DataW H) → Nat
  | [] => 0
  | x :: r => uptoBulkEntry x + uptoBulkEntries r
def uptoBulkEntry {H : Type} : Lit × DataW H → Nat
  | (.string bytes, d) => bytes.length + uptoBulk d + 1
  | (_, d) => uptoBulk d + 1
 end
def uptoSmall : (H : Type) → List (DataW H) → Bool := fun _ ds => decide (uptoBulkAll ds ≤ 1048576)
def OpenSpec.upto (s : _root_.Go.ChangeSpec) : _root_.Go.OpenSpec := { _root_.Go.OpenSpec.ofChange s with cond := some uptoSmall }

/-- 'lockkeeperlaw12.PileSorts', WHERE WHAT IT READS IS OF BULK AT MOST 1048576: true; the input reads as it did. -/
def pileSortsUptoRow : OpenClaim := { program := "ytmanmebgmhpilaa", sum := "03e23b68b51614668045aeb99a48346e20c5b6b15b5f1c67e6b96fc895815812", func := "lockkeeper/lockkeeperlaw12.PileSorts", spec := "pileSorts", apart := false, narrowed := true }
def PileSortsUptoSaid : Prop := pileSortsUptoRow.holds Try.pinned (OpenSpec.upto pileSortsSpec)

/-- 'lockkeeperlaw11.RankSorts', WHERE WHAT IT READS IS OF BULK AT MOST 1048576: true; the input reads as it did. -/
def rankSortsUptoRow : OpenClaim := { program := "ytmanmebgmhpilaa", sum := "03e23b68b51614668045aeb99a48346e20c5b6b15b5f1c67e6b96fc895815812", func := "lockkeeper/lockkeeperlaw11.RankSorts", spec := "rankSorts", unfollowed := true, recurses := true, apart := false, narrowed := true }
def RankSortsUptoSaid : Prop := rankSortsUptoRow.holds Try.pinned (OpenSpec.upto rankSortsSpec)

/-- 'lockkeeperlaw12.PilePlays', WHERE WHAT IT READS IS OF BULK AT MOST 1048576: true; the input reads as it did. -/
def pilePlaysUptoRow : OpenClaim := { program := "ytmanmebgmhpilaa", sum := "03e23b68b51614668045aeb99a48346e20c5b6b15b5f1c67e6b96fc895815812", func := "lockkeeper/lockkeeperlaw12.PilePlays", spec := "pilePlays", unfollowed := true, recurses := true, apart := false, narrowed := true }
def PilePlaysUptoSaid : Prop := pilePlaysUptoRow.holds Try.pinned (OpenSpec.upto pilePlaysSpec)

/-- 'lockkeeperlaw12.PileNobody', WHERE WHAT IT READS IS OF BULK AT MOST 1048576: true; the input reads as it did. -/
def pileNobodyUptoRow : OpenClaim := { program := "ytmanmebgmhpilaa", sum := "03e23b68b51614668045aeb99a48346e20c5b6b15b5f1c67e6b96fc895815812", func := "lockkeeper/lockkeeperlaw12.PileNobody", spec := "pileNobody", unfollowed := true, recurses := true, apart := false, narrowed := true }
def PileNobodyUptoSaid : Prop := pileNobodyUptoRow.holds Try.pinned (OpenSpec.upto pileNobodySpec)

/-- 'lockkeeperlaw13.QueueEvicts', WHERE WHAT IT READS IS OF BULK AT MOST 1048576: true; the input reads as it did. -/
def queueEvictsUptoRow : OpenClaim := { program := "ytmanmebgmhpilaa", sum := "03e23b68b51614668045aeb99a48346e20c5b6b15b5f1c67e6b96fc895815812", func := "lockkeeper/lockkeeperlaw13.QueueEvicts", spec := "queueEvicts", unfollowed := true, recurses := true, apart := false, narrowed := true }
def QueueEvictsUptoSaid : Prop := queueEvictsUptoRow.holds Try.pinned (OpenSpec.upto queueEvictsSpec)

/-- 'lockkeeperlaw13.QueuePlays', WHERE WHAT IT READS IS OF BULK AT MOST 1048576: true; the input reads as it did. -/
def queuePlaysUptoRow : OpenClaim := { program := "ytmanmebgmhpilaa", sum := "03e23b68b51614668045aeb99a48346e20c5b6b15b5f1c67e6b96fc895815812", func := "lockkeeper/lockkeeperlaw13.QueuePlays", spec := "queuePlays", unfollowed := true, recurses := true, apart := false, narrowed := true }
def QueuePlaysUptoSaid : Prop := queuePlaysUptoRow.holds Try.pinned (OpenSpec.upto queuePlaysSpec)

/-- 'lockkeeperlaw13.QueueNobody', WHERE WHAT IT READS IS OF BULK AT MOST 1048576: true; the input reads as it did. -/
def queueNobodyUptoRow : OpenClaim := { program := "ytmanmebgmhpilaa", sum := "03e23b68b51614668045aeb99a48346e20c5b6b15b5f1c67e6b96fc895815812", func := "lockkeeper/lockkeeperlaw13.QueueNobody", spec := "queueNobody", unfollowed := true, recurses := true, apart := false, narrowed := true }
def QueueNobodyUptoSaid : Prop := queueNobodyUptoRow.holds Try.pinned (OpenSpec.upto queueNobodySpec)

end Rows
end Go.Proofs.Ytmanmebgmhpilaa
