/-
  NARROWER THAN 'FOR EVERY INPUT', by the rows' own cells (each row's printed sentence says how): PushPuts: laid · PushGets: laid · PushBack: laid.
  DERIVED. THE GIVEN ROWS OF THIS SEAT. 3 by the template 'for every input the law returns true; each argument reads behind the call as it read before'; 0 by the template 'total and deterministic' (their statements: YtmohgbnfhpffjaaDoorTotals.lean).
  GIVEN WITH THE SEED: the statements are not yours to turn. If you find one false, say at which input.
  Laid BY PROGRAM, IN A SANDBOX (cutbox-rows.mjs): the forced cells as the released guide's own fill.sh prints them over the translation 30bf9334f4fd0e81… (all of the seat's roots in one cut). By AI agents, Wed Nov 11 2026. No macro, syntax, notation, axiom, sorry.
-/
import Derived.Test.YtmohgbnfhpffjaaDoorChecked
import GoSem.Claim
import GoSem.ClaimJoined
import GoSem.ClaimMapViews
import Derived.JoinedTies
import Derived.KernelRfl
namespace Go.Proofs.YtmohgbnfhpffjaaDoor
/- THE CELL 'sum', in the pinned program and in every row, IS THE sha256 OF THE DUMP (.gsa) THAT YtmohgbnfhpffjaaDoorProg.lean LOADS. Nothing in Lean hashes anything: it is a label: what it is worth is what the hold of that sum in a sandbox is worth. -/
noncomputable def Tryd.pinned : Pinned := { name := "ytmohgbnfhpffjaadoor", sum := "30bf9334f4fd0e81b7a44ffda415b9f5c9811897aace7299c154c83bbfd106cf", checked := Tryd.checked }
namespace Rows
def none {H : Type} : Left H := { results := [], args := [] }

/- WHAT THE LISTED PACKAGE-LEVEL VARIABLES READ AS WHEN THE CALL BEGINS. Each datum BY PROGRAM (the guide's laid-datum.mjs) off the statement by which the dump's own 'gosem.cut.vars' lays the variable. In a bare row this is a premise. The card (YtmohgbnfhpffjaaDoorCards.lean) ties it to the program's text. -/
def laid_lockkeeper_push_widths {H : Type} : DataW H := .agg [.lit (.int .i64 1), .lit (.int .i64 4), .lit (.int .i64 2), .lit (.int .i64 2), .lit (.int .i64 1), .lit (.int .i64 1), .lit (.int .i64 1), .lit (.int .i64 1), .lit (.int .i64 1)]

/-- 'lockkeeperlaw26.PushPuts': WHATEVER THE INPUT: true; the input reads as it did. -/
def pushPutsSpec : ChangeSpec := { name := "pushPuts", fn := fun _ => fun
  | [d1, d2] => { results := [.lit (.bool true)], args := [d1, d2] }
  | _ => none }
def pushPutsRow : OpenClaim := { program := "ytmohgbnfhpffjaadoor", sum := "30bf9334f4fd0e81b7a44ffda415b9f5c9811897aace7299c154c83bbfd106cf", func := "lockkeeper/lockkeeperlaw26.PushPuts", spec := "pushPuts", named := ["lockkeeper/push.widths"], apart := false, laid := [("lockkeeper/push.widths", laid_lockkeeper_push_widths)] }
def PushPutsSaid : Prop := pushPutsRow.holds Tryd.pinned (OpenSpec.ofChange pushPutsSpec)

/-- ITS FALSE NEIGHBOUR: 'it returns false'. Refute it at one input. -/
def pushPutsWrong : ChangeSpec := { name := "pushPuts", fn := fun _ => fun
  | [d1, d2] => { results := [.lit (.bool false)], args := [d1, d2] }
  | _ => none }
def PushPutsWrongFalsely : Prop := pushPutsRow.holds Tryd.pinned (OpenSpec.ofChange pushPutsWrong)

/-- 'lockkeeperlaw26.PushGets': WHATEVER THE INPUT: true; the input reads as it did. -/
def pushGetsSpec : ChangeSpec := { name := "pushGets", fn := fun _ => fun
  | [d] => { results := [.lit (.bool true)], args := [d] }
  | _ => none }
def pushGetsRow : OpenClaim := { program := "ytmohgbnfhpffjaadoor", sum := "30bf9334f4fd0e81b7a44ffda415b9f5c9811897aace7299c154c83bbfd106cf", func := "lockkeeper/lockkeeperlaw26.PushGets", spec := "pushGets", named := ["lockkeeper/push.widths"], apart := false, laid := [("lockkeeper/push.widths", laid_lockkeeper_push_widths)] }
def PushGetsSaid : Prop := pushGetsRow.holds Tryd.pinned (OpenSpec.ofChange pushGetsSpec)

/-- ITS FALSE NEIGHBOUR: 'it returns false'. Refute it at one input. -/
def pushGetsWrong : ChangeSpec := { name := "pushGets", fn := fun _ => fun
  | [d] => { results := [.lit (.bool false)], args := [d] }
  | _ => none }
def PushGetsWrongFalsely : Prop := pushGetsRow.holds Tryd.pinned (OpenSpec.ofChange pushGetsWrong)

/-- 'lockkeeperlaw26.PushBack': WHATEVER THE INPUT: true; the input reads as it did. -/
def pushBackSpec : ChangeSpec := { name := "pushBack", fn := fun _ => fun
  | [d1, d2] => { results := [.lit (.bool true)], args := [d1, d2] }
  | _ => none }
def pushBackRow : OpenClaim := { program := "ytmohgbnfhpffjaadoor", sum := "30bf9334f4fd0e81b7a44ffda415b9f5c9811897aace7299c154c83bbfd106cf", func := "lockkeeper/lockkeeperlaw26.PushBack", spec := "pushBack", named := ["lockkeeper/push.widths"], apart := false, laid := [("lockkeeper/push.widths", laid_lockkeeper_push_widths)] }
def PushBackSaid : Prop := pushBackRow.holds Tryd.pinned (OpenSpec.ofChange pushBackSpec)

/-- ITS FALSE NEIGHBOUR: 'it returns false'. Refute it at one input. -/
def pushBackWrong : ChangeSpec := { name := "pushBack", fn := fun _ => fun
  | [d1, d2] => { results := [.lit (.bool false)], args := [d1, d2] }
  | _ => none }
def PushBackWrongFalsely : Prop := pushBackRow.holds Tryd.pinned (OpenSpec.ofChange pushBackWrong)

/- THE SECOND FORM. 'bulk': how many values and letters a reading holds, each counted each time it is reached (what is shared counts as often as it is met; a slice's spare places count too). A statement '..UptoSaid' is the law's where the arguments, and the package variables that the reading takes, are together of bulk at most 1048576: NARROWER than '..Said'. Prove '..Said' where nothing that the law and all that it calls make is longer than what came in: it says more and counts as full. Else prove '..UptoSaid'. A law counts once. -/
mutual
def uptoBulk {H : Type} : DataW H → Nat
  | .lit (.string bytes) => bytes.length + 1
  | .lit _ => 1
  | .nil => 1
  | .ptr d => uptoBulk d + 1
  | .slice elems spare => uptoBulkAll elems + uptoBulkAll spare + 1
  | .agg parts => uptoBulkAll parts + 1
  | .iface _ d => uptoBulk d + 1
  | .map entries => uptoBulkEntries entries + 1
  | .held _ => 1
def uptoBulkAll {H : Type} : List (DataW H) → Nat
  | [] => 0
  | d :: r => uptoBulk d + uptoBulkAll r
def uptoBulkEntries {H : Type} : List (Lit × DataW H) → Nat
  | [] => 0
  | x :: r => uptoBulkEntry x + uptoBulkEntries r
def uptoBulkEntry {H : Type} : Lit × DataW H → Nat
  | (.string bytes, d) => bytes.length + uptoBulk d + 1
  | (_, d) => uptoBulk d + 1
 end
def uptoSmall : (H : Type) → List (DataW H) → Bool := fun _ ds => decide (uptoBulkAll ds ≤ 1048576)
def OpenSpec.upto (s : _root_.Go.ChangeSpec) : _root_.Go.OpenSpec := { _root_.Go.OpenSpec.ofChange s with cond := some uptoSmall }

/-- 'lockkeeperlaw26.PushPuts', WHERE WHAT IT READS IS OF BULK AT MOST 1048576: true; the input reads as it did. -/
def pushPutsUptoRow : OpenClaim := { program := "ytmohgbnfhpffjaadoor", sum := "30bf9334f4fd0e81b7a44ffda415b9f5c9811897aace7299c154c83bbfd106cf", func := "lockkeeper/lockkeeperlaw26.PushPuts", spec := "pushPuts", named := ["lockkeeper/push.widths"], apart := false, laid := [("lockkeeper/push.widths", laid_lockkeeper_push_widths)], narrowed := true }
def PushPutsUptoSaid : Prop := pushPutsUptoRow.holds Tryd.pinned (OpenSpec.upto pushPutsSpec)

/-- 'lockkeeperlaw26.PushGets', WHERE WHAT IT READS IS OF BULK AT MOST 1048576: true; the input reads as it did. -/
def pushGetsUptoRow : OpenClaim := { program := "ytmohgbnfhpffjaadoor", sum := "30bf9334f4fd0e81b7a44ffda415b9f5c9811897aace7299c154c83bbfd106cf", func := "lockkeeper/lockkeeperlaw26.PushGets", spec := "pushGets", named := ["lockkeeper/push.widths"], apart := false, laid := [("lockkeeper/push.widths", laid_lockkeeper_push_widths)], narrowed := true }
def PushGetsUptoSaid : Prop := pushGetsUptoRow.holds Tryd.pinned (OpenSpec.upto pushGetsSpec)

/-- 'lockkeeperlaw26.PushBack', WHERE WHAT IT READS IS OF BULK AT MOST 1048576: true; the input reads as it did. -/
def pushBackUptoRow : OpenClaim := { program := "ytmohgbnfhpffjaadoor", sum := "30bf9334f4fd0e81b7a44ffda415b9f5c9811897aace7299c154c83bbfd106cf", func := "lockkeeper/lockkeeperlaw26.PushBack", spec := "pushBack", named := ["lockkeeper/push.widths"], apart := false, laid := [("lockkeeper/push.widths", laid_lockkeeper_push_widths)], narrowed := true }
def PushBackUptoSaid : Prop := pushBackUptoRow.holds Tryd.pinned (OpenSpec.upto pushBackSpec)

end Rows
end Go.Proofs.YtmohgbnfhpffjaaDoor
