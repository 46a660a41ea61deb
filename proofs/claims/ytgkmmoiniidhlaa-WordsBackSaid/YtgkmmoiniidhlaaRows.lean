/-
  No cell of these rows narrows 'for every input' (looked for: loops, veiled, ifaces, maps, wideKeys, modest, calm, conditions, laid).
  DERIVED. THE GIVEN ROWS OF THIS SEAT. 9 by the template 'for every input the law returns true; each argument reads behind the call as it read before'; 0 by the template 'total and deterministic' (their statements: YtgkmmoiniidhlaaTotals.lean).
  GIVEN WITH THE SEED: the statements are not yours to turn. If you find one false, say at which input.
  Laid BY PROGRAM, IN A SANDBOX (cutbox-rows.mjs): the forced cells as the released guide's own fill.sh prints them over the translation 5c3ab31d37247c92… (all of the seat's roots in one cut). By AI agents, Wed Nov 11 2026. No macro, syntax, notation, axiom, sorry.
-/
import Derived.Test.YtgkmmoiniidhlaaChecked
import GoSem.Claim
import GoSem.ClaimJoined
import GoSem.ClaimMapViews
import Derived.JoinedTies
import Derived.KernelRfl
namespace Go.Proofs.Ytgkmmoiniidhlaa
/- THE CELL 'sum', in the pinned program and in every row, IS THE sha256 OF THE DUMP (.gsa) THAT YtgkmmoiniidhlaaProg.lean LOADS. Nothing in Lean hashes anything: it is a label: what it is worth is what the hold of that sum in a sandbox is worth. -/
noncomputable def Try.pinned : Pinned := { name := "ytgkmmoiniidhlaa", sum := "5c3ab31d37247c92a319b64fe5c4fb2245c11e0ef096b5bfe0612ee283a4b88b", checked := Try.checked }
namespace Rows
def none {H : Type} : Left H := { results := [], args := [] }

/-- 'lockkeeperlaw33.FanRequired': WHATEVER THE INPUT: true; the input reads as it did. -/
def fanRequiredSpec : ChangeSpec := { name := "fanRequired", fn := fun _ => fun
  | [d1, d2, d3] => { results := [.lit (.bool true)], args := [d1, d2, d3] }
  | _ => none }
def fanRequiredRow : OpenClaim := { program := "ytgkmmoiniidhlaa", sum := "5c3ab31d37247c92a319b64fe5c4fb2245c11e0ef096b5bfe0612ee283a4b88b", func := "lockkeeper/lockkeeperlaw33.FanRequired", spec := "fanRequired", unfollowed := true, recurses := true, apart := false }
def FanRequiredSaid : Prop := fanRequiredRow.holds Try.pinned (OpenSpec.ofChange fanRequiredSpec)

/-- ITS FALSE NEIGHBOUR: 'it returns false'. Refute it at one input. -/
def fanRequiredWrong : ChangeSpec := { name := "fanRequired", fn := fun _ => fun
  | [d1, d2, d3] => { results := [.lit (.bool false)], args := [d1, d2, d3] }
  | _ => none }
def FanRequiredWrongFalsely : Prop := fanRequiredRow.holds Try.pinned (OpenSpec.ofChange fanRequiredWrong)

/-- 'lockkeeperlaw33.FanPlans': WHATEVER THE INPUT: true; the input reads as it did. -/
def fanPlansSpec : ChangeSpec := { name := "fanPlans", fn := fun _ => fun
  | [d1, d2, d3] => { results := [.lit (.bool true)], args := [d1, d2, d3] }
  | _ => none }
def fanPlansRow : OpenClaim := { program := "ytgkmmoiniidhlaa", sum := "5c3ab31d37247c92a319b64fe5c4fb2245c11e0ef096b5bfe0612ee283a4b88b", func := "lockkeeper/lockkeeperlaw33.FanPlans", spec := "fanPlans", unfollowed := true, recurses := true, apart := false }
def FanPlansSaid : Prop := fanPlansRow.holds Try.pinned (OpenSpec.ofChange fanPlansSpec)

/-- ITS FALSE NEIGHBOUR: 'it returns false'. Refute it at one input. -/
def fanPlansWrong : ChangeSpec := { name := "fanPlans", fn := fun _ => fun
  | [d1, d2, d3] => { results := [.lit (.bool false)], args := [d1, d2, d3] }
  | _ => none }
def FanPlansWrongFalsely : Prop := fanPlansRow.holds Try.pinned (OpenSpec.ofChange fanPlansWrong)

/-- 'lockkeeperlaw12.PileSorts': WHATEVER THE INPUT: true; the input reads as it did. -/
def pileSortsSpec : ChangeSpec := { name := "pileSorts", fn := fun _ => fun
  | [d1, d2] => { results := [.lit (.bool true)], args := [d1, d2] }
  | _ => none }
def pileSortsRow : OpenClaim := { program := "ytgkmmoiniidhlaa", sum := "5c3ab31d37247c92a319b64fe5c4fb2245c11e0ef096b5bfe0612ee283a4b88b", func := "lockkeeper/lockkeeperlaw12.PileSorts", spec := "pileSorts", apart := false }
def PileSortsSaid : Prop := pileSortsRow.holds Try.pinned (OpenSpec.ofChange pileSortsSpec)

/-- ITS FALSE NEIGHBOUR: 'it returns false'. Refute it at one input. -/
def pileSortsWrong : ChangeSpec := { name := "pileSorts", fn := fun _ => fun
  | [d1, d2] => { results := [.lit (.bool false)], args := [d1, d2] }
  | _ => none }
def PileSortsWrongFalsely : Prop := pileSortsRow.holds Try.pinned (OpenSpec.ofChange pileSortsWrong)

/-- 'lockkeeperlaw23.HeadPuts': WHATEVER THE INPUT: true; the input reads as it did. -/
def headPutsSpec : ChangeSpec := { name := "headPuts", fn := fun _ => fun
  | [d1, d2, d3] => { results := [.lit (.bool true)], args := [d1, d2, d3] }
  | _ => none }
def headPutsRow : OpenClaim := { program := "ytgkmmoiniidhlaa", sum := "5c3ab31d37247c92a319b64fe5c4fb2245c11e0ef096b5bfe0612ee283a4b88b", func := "lockkeeper/lockkeeperlaw23.HeadPuts", spec := "headPuts", unfollowed := true, recurses := true, apart := false }
def HeadPutsSaid : Prop := headPutsRow.holds Try.pinned (OpenSpec.ofChange headPutsSpec)

/-- ITS FALSE NEIGHBOUR: 'it returns false'. Refute it at one input. -/
def headPutsWrong : ChangeSpec := { name := "headPuts", fn := fun _ => fun
  | [d1, d2, d3] => { results := [.lit (.bool false)], args := [d1, d2, d3] }
  | _ => none }
def HeadPutsWrongFalsely : Prop := headPutsRow.holds Try.pinned (OpenSpec.ofChange headPutsWrong)

/-- 'lockkeeperlaw23.HeadGets': WHATEVER THE INPUT: true; the input reads as it did. -/
def headGetsSpec : ChangeSpec := { name := "headGets", fn := fun _ => fun
  | [d] => { results := [.lit (.bool true)], args := [d] }
  | _ => none }
def headGetsRow : OpenClaim := { program := "ytgkmmoiniidhlaa", sum := "5c3ab31d37247c92a319b64fe5c4fb2245c11e0ef096b5bfe0612ee283a4b88b", func := "lockkeeper/lockkeeperlaw23.HeadGets", spec := "headGets", unfollowed := true, recurses := true, apart := false }
def HeadGetsSaid : Prop := headGetsRow.holds Try.pinned (OpenSpec.ofChange headGetsSpec)

/-- ITS FALSE NEIGHBOUR: 'it returns false'. Refute it at one input. -/
def headGetsWrong : ChangeSpec := { name := "headGets", fn := fun _ => fun
  | [d] => { results := [.lit (.bool false)], args := [d] }
  | _ => none }
def HeadGetsWrongFalsely : Prop := headGetsRow.holds Try.pinned (OpenSpec.ofChange headGetsWrong)

/-- 'lockkeeperlaw11.RankSorts': WHATEVER THE INPUT: true; the input reads as it did. -/
def rankSortsSpec : ChangeSpec := { name := "rankSorts", fn := fun _ => fun
  | [d] => { results := [.lit (.bool true)], args := [d] }
  | _ => none }
def rankSortsRow : OpenClaim := { program := "ytgkmmoiniidhlaa", sum := "5c3ab31d37247c92a319b64fe5c4fb2245c11e0ef096b5bfe0612ee283a4b88b", func := "lockkeeper/lockkeeperlaw11.RankSorts", spec := "rankSorts", unfollowed := true, recurses := true, apart := false }
def RankSortsSaid : Prop := rankSortsRow.holds Try.pinned (OpenSpec.ofChange rankSortsSpec)

/-- ITS FALSE NEIGHBOUR: 'it returns false'. Refute it at one input. -/
def rankSortsWrong : ChangeSpec := { name := "rankSorts", fn := fun _ => fun
  | [d] => { results := [.lit (.bool false)], args := [d] }
  | _ => none }
def RankSortsWrongFalsely : Prop := rankSortsRow.holds Try.pinned (OpenSpec.ofChange rankSortsWrong)

/-- 'lockkeeperlaw06.WordsTells': WHATEVER THE INPUT: true; the input reads as it did. -/
def wordsTellsSpec : ChangeSpec := { name := "wordsTells", fn := fun _ => fun
  | [d] => { results := [.lit (.bool true)], args := [d] }
  | _ => none }
def wordsTellsRow : OpenClaim := { program := "ytgkmmoiniidhlaa", sum := "5c3ab31d37247c92a319b64fe5c4fb2245c11e0ef096b5bfe0612ee283a4b88b", func := "lockkeeper/lockkeeperlaw06.WordsTells", spec := "wordsTells", inPlace := ["internal/bytealg.IndexByteString", "internal/bytealg.IndexString", "internal/abi.NoEscape", "internal/bytealg.MakeNoZero"], unfollowed := true, recurses := true, named := ["internal/bytealg.MaxLen"], apart := false }
def WordsTellsSaid : Prop := wordsTellsRow.holds Try.pinned (OpenSpec.ofChange wordsTellsSpec)

/-- ITS FALSE NEIGHBOUR: 'it returns false'. Refute it at one input. -/
def wordsTellsWrong : ChangeSpec := { name := "wordsTells", fn := fun _ => fun
  | [d] => { results := [.lit (.bool false)], args := [d] }
  | _ => none }
def WordsTellsWrongFalsely : Prop := wordsTellsRow.holds Try.pinned (OpenSpec.ofChange wordsTellsWrong)

/-- 'lockkeeperlaw06.WordsJoins': WHATEVER THE INPUT: true; the input reads as it did. -/
def wordsJoinsSpec : ChangeSpec := { name := "wordsJoins", fn := fun _ => fun
  | [d1, d2] => { results := [.lit (.bool true)], args := [d1, d2] }
  | _ => none }
def wordsJoinsRow : OpenClaim := { program := "ytgkmmoiniidhlaa", sum := "5c3ab31d37247c92a319b64fe5c4fb2245c11e0ef096b5bfe0612ee283a4b88b", func := "lockkeeper/lockkeeperlaw06.WordsJoins", spec := "wordsJoins", inPlace := ["internal/bytealg.IndexByteString", "internal/bytealg.IndexString", "internal/abi.NoEscape", "internal/bytealg.MakeNoZero"], unfollowed := true, recurses := true, named := ["internal/bytealg.MaxLen"], apart := false }
def WordsJoinsSaid : Prop := wordsJoinsRow.holds Try.pinned (OpenSpec.ofChange wordsJoinsSpec)

/-- ITS FALSE NEIGHBOUR: 'it returns false'. Refute it at one input. -/
def wordsJoinsWrong : ChangeSpec := { name := "wordsJoins", fn := fun _ => fun
  | [d1, d2] => { results := [.lit (.bool false)], args := [d1, d2] }
  | _ => none }
def WordsJoinsWrongFalsely : Prop := wordsJoinsRow.holds Try.pinned (OpenSpec.ofChange wordsJoinsWrong)

/-- 'lockkeeperlaw06.WordsBack': WHATEVER THE INPUT: true; the input reads as it did. -/
def wordsBackSpec : ChangeSpec := { name := "wordsBack", fn := fun _ => fun
  | [d] => { results := [.lit (.bool true)], args := [d] }
  | _ => none }
def wordsBackRow : OpenClaim := { program := "ytgkmmoiniidhlaa", sum := "5c3ab31d37247c92a319b64fe5c4fb2245c11e0ef096b5bfe0612ee283a4b88b", func := "lockkeeper/lockkeeperlaw06.WordsBack", spec := "wordsBack", inPlace := ["internal/bytealg.IndexByteString", "internal/bytealg.IndexString", "internal/abi.NoEscape", "internal/bytealg.MakeNoZero"], unfollowed := true, recurses := true, named := ["internal/bytealg.MaxLen"], apart := false }
def WordsBackSaid : Prop := wordsBackRow.holds Try.pinned (OpenSpec.ofChange wordsBackSpec)

/-- ITS FALSE NEIGHBOUR: 'it returns false'. Refute it at one input. -/
def wordsBackWrong : ChangeSpec := { name := "wordsBack", fn := fun _ => fun
  | [d] => { results := [.lit (.bool false)], args := [d] }
  | _ => none }
def WordsBackWrongFalsely : Prop := wordsBackRow.holds Try.pinned (OpenSpec.ofChange wordsBackWrong)

/- THE SECOND FORM. 'bulk': how many values and letters a reading holds, each counted each time it is reached (what is shared counts as often as it is met; a slice's spare places count too). A statement '..UptoSaid' is the law's where the arguments, and the package variables that the reading takes, are together of bulk at most 1048576: NARROWER than '..Said'. Prove '..Said' where nothing that the law and all that it calls make is longer than what came in: it says more and counts as full. Else prove '..UptoSaid'. A law counts once. -/
mutual
def uptoBulk {H : Type} : DataW H → Nat
  | .lit (.string bytes) => bytes.length + 1
  | .lit _ => 1
  | .nil => 1
  | .ptr d => uptoBulk d + 1
  | .slice elems spare => uptoBulkAll elems + uptoBulkAll spare + 1
  | .agg parts => uptoBulkAll parts + 1
  | .iface _ d => uptoBulk d + 1
  | .map entries => uptoBulkEntries entries + 1
  | .held _ => 1
def uptoBulkAll {H : Type} : List (DataW H) → Nat
  | [] => 0
  | d :: r => uptoBulk d + uptoBulkAll r
def uptoBulkEntries {H : Type} : List (Lit × DataW H) → Nat
  | [] => 0
  | x :: r => uptoBulkEntry x + uptoBulkEntries r
def uptoBulkEntry {H : Type} : Lit × DataW H → Nat
  | (.string bytes, d) => bytes.length + uptoBulk d + 1
  | (_, d) => uptoBulk d + 1
 end
def uptoSmall : (H : Type) → List (DataW H) → Bool := fun _ ds => decide (uptoBulkAll ds ≤ 1048576)
def OpenSpec.upto (s : _root_.Go.ChangeSpec) : _root_.Go.OpenSpec := { _root_.Go.OpenSpec.ofChange s with cond := some uptoSmall }

/-- 'lockkeeperlaw33.FanRequired', WHERE WHAT IT READS IS OF BULK AT MOST 1048576: true; the input reads as it did. -/
def fanRequiredUptoRow : OpenClaim := { program := "ytgkmmoiniidhlaa", sum := "5c3ab31d37247c92a319b64fe5c4fb2245c11e0ef096b5bfe0612ee283a4b88b", func := "lockkeeper/lockkeeperlaw33.FanRequired", spec := "fanRequired", unfollowed := true, recurses := true, apart := false, narrowed := true }
def FanRequiredUptoSaid : Prop := fanRequiredUptoRow.holds Try.pinned (OpenSpec.upto fanRequiredSpec)

/-- 'lockkeeperlaw33.FanPlans', WHERE WHAT IT READS IS OF BULK AT MOST 1048576: true; the input reads as it did. -/
def fanPlansUptoRow : OpenClaim := { program := "ytgkmmoiniidhlaa", sum := "5c3ab31d37247c92a319b64fe5c4fb2245c11e0ef096b5bfe0612ee283a4b88b", func := "lockkeeper/lockkeeperlaw33.FanPlans", spec := "fanPlans", unfollowed := true, recurses := true, apart := false, narrowed := true }
def FanPlansUptoSaid : Prop := fanPlansUptoRow.holds Try.pinned (OpenSpec.upto fanPlansSpec)

/-- 'lockkeeperlaw12.PileSorts', WHERE WHAT IT READS IS OF BULK AT MOST 1048576: true; the input reads as it did. -/
def pileSortsUptoRow : OpenClaim := { program := "ytgkmmoiniidhlaa", sum := "5c3ab31d37247c92a319b64fe5c4fb2245c11e0ef096b5bfe0612ee283a4b88b", func := "lockkeeper/lockkeeperlaw12.PileSorts", spec := "pileSorts", apart := false, narrowed := true }
def PileSortsUptoSaid : Prop := pileSortsUptoRow.holds Try.pinned (OpenSpec.upto pileSortsSpec)

/-- 'lockkeeperlaw23.HeadPuts', WHERE WHAT IT READS IS OF BULK AT MOST 1048576: true; the input reads as it did. -/
def headPutsUptoRow : OpenClaim := { program := "ytgkmmoiniidhlaa", sum := "5c3ab31d37247c92a319b64fe5c4fb2245c11e0ef096b5bfe0612ee283a4b88b", func := "lockkeeper/lockkeeperlaw23.HeadPuts", spec := "headPuts", unfollowed := true, recurses := true, apart := false, narrowed := true }
def HeadPutsUptoSaid : Prop := headPutsUptoRow.holds Try.pinned (OpenSpec.upto headPutsSpec)

/-- 'lockkeeperlaw23.HeadGets', WHERE WHAT IT READS IS OF BULK AT MOST 1048576: true; the input reads as it did. -/
def headGetsUptoRow : OpenClaim := { program := "ytgkmmoiniidhlaa", sum := "5c3ab31d37247c92a319b64fe5c4fb2245c11e0ef096b5bfe0612ee283a4b88b", func := "lockkeeper/lockkeeperlaw23.HeadGets", spec := "headGets", unfollowed := true, recurses := true, apart := false, narrowed := true }
def HeadGetsUptoSaid : Prop := headGetsUptoRow.holds Try.pinned (OpenSpec.upto headGetsSpec)

/-- 'lockkeeperlaw11.RankSorts', WHERE WHAT IT READS IS OF BULK AT MOST 1048576: true; the input reads as it did. -/
def rankSortsUptoRow : OpenClaim := { program := "ytgkmmoiniidhlaa", sum := "5c3ab31d37247c92a319b64fe5c4fb2245c11e0ef096b5bfe0612ee283a4b88b", func := "lockkeeper/lockkeeperlaw11.RankSorts", spec := "rankSorts", unfollowed := true, recurses := true, apart := false, narrowed := true }
def RankSortsUptoSaid : Prop := rankSortsUptoRow.holds Try.pinned (OpenSpec.upto rankSortsSpec)

/-- 'lockkeeperlaw06.WordsTells', WHERE WHAT IT READS IS OF BULK AT MOST 1048576: true; the input reads as it did. -/
def wordsTellsUptoRow : OpenClaim := { program := "ytgkmmoiniidhlaa", sum := "5c3ab31d37247c92a319b64fe5c4fb2245c11e0ef096b5bfe0612ee283a4b88b", func := "lockkeeper/lockkeeperlaw06.WordsTells", spec := "wordsTells", inPlace := ["internal/bytealg.IndexByteString", "internal/bytealg.IndexString", "internal/abi.NoEscape", "internal/bytealg.MakeNoZero"], unfollowed := true, recurses := true, named := ["internal/bytealg.MaxLen"], apart := false, narrowed := true }
def WordsTellsUptoSaid : Prop := wordsTellsUptoRow.holds Try.pinned (OpenSpec.upto wordsTellsSpec)

/-- 'lockkeeperlaw06.WordsJoins', WHERE WHAT IT READS IS OF BULK AT MOST 1048576: true; the input reads as it did. -/
def wordsJoinsUptoRow : OpenClaim := { program := "ytgkmmoiniidhlaa", sum := "5c3ab31d37247c92a319b64fe5c4fb2245c11e0ef096b5bfe0612ee283a4b88b", func := "lockkeeper/lockkeeperlaw06.WordsJoins", spec := "wordsJoins", inPlace := ["internal/bytealg.IndexByteString", "internal/bytealg.IndexString", "internal/abi.NoEscape", "internal/bytealg.MakeNoZero"], unfollowed := true, recurses := true, named := ["internal/bytealg.MaxLen"], apart := false, narrowed := true }
def WordsJoinsUptoSaid : Prop := wordsJoinsUptoRow.holds Try.pinned (OpenSpec.upto wordsJoinsSpec)

/-- 'lockkeeperlaw06.WordsBack', WHERE WHAT IT READS IS OF BULK AT MOST 1048576: true; the input reads as it did. -/
def wordsBackUptoRow : OpenClaim := { program := "ytgkmmoiniidhlaa", sum := "5c3ab31d37247c92a319b64fe5c4fb2245c11e0ef096b5bfe0612ee283a4b88b", func := "lockkeeper/lockkeeperlaw06.WordsBack", spec := "wordsBack", inPlace := ["internal/bytealg.IndexByteString", "internal/bytealg.IndexString", "internal/abi.NoEscape", "internal/bytealg.MakeNoZero"], unfollowed := true, recurses := true, named := ["internal/bytealg.MaxLen"], apart := false, narrowed := true }
def WordsBackUptoSaid : Prop := wordsBackUptoRow.holds Try.pinned (OpenSpec.upto wordsBackSpec)

end Rows
end Go.Proofs.Ytgkmmoiniidhlaa
