/-
  NARROWER THAN 'FOR EVERY INPUT', by the rows' own cells (each row's printed sentence says how): ReplyGets: laid · ReplyBack: laid · ReplyPuts: laid.
  DERIVED. THE GIVEN ROWS OF THIS SEAT. 3 by the template 'for every input the law returns true; each argument reads behind the call as it read before'; 0 by the template 'total and deterministic' (their statements: YtgkmmoiniidhlaaDoorTotals.lean).
  GIVEN WITH THE SEED: the statements are not yours to turn. If you find one false, say at which input.
  Laid BY PROGRAM, IN A SANDBOX (cutbox-rows.mjs): the forced cells as the released guide's own fill.sh prints them over the translation c227516666e1d855… (all of the seat's roots in one cut). By AI agents, Wed Nov 11 2026. No macro, syntax, notation, axiom, sorry.
-/
import Derived.Test.YtgkmmoiniidhlaaDoorChecked
import GoSem.Claim
import GoSem.ClaimJoined
import GoSem.ClaimMapViews
import Derived.JoinedTies
import Derived.KernelRfl
namespace Go.Proofs.YtgkmmoiniidhlaaDoor
/- THE CELL 'sum', in the pinned program and in every row, IS THE sha256 OF THE DUMP (.gsa) THAT YtgkmmoiniidhlaaDoorProg.lean LOADS. Nothing in Lean hashes anything: it is a label: what it is worth is what the hold of that sum in a sandbox is worth. -/
noncomputable def Tryd.pinned : Pinned := { name := "ytgkmmoiniidhlaadoor", sum := "c227516666e1d8556e428ab36d3f250fed328a9ddd41567417a7d3faea04e8c6", checked := Tryd.checked }
namespace Rows
def none {H : Type} : Left H := { results := [], args := [] }

/- WHAT THE LISTED PACKAGE-LEVEL VARIABLES READ AS WHEN THE CALL BEGINS. Each datum BY PROGRAM (the guide's laid-datum.mjs) off the statement by which the dump's own 'gosem.cut.vars' lays the variable. In a bare row this is a premise. The card (YtgkmmoiniidhlaaDoorCards.lean) ties it to the program's text. -/
def laid_lockkeeper_reply_names {H : Type} : DataW H := .agg [.lit (.string [103, 111, 111, 100]), .lit (.string [114, 101, 102, 117, 115, 101, 100]), .lit (.string [101, 120, 112, 105, 114, 101, 100]), .lit (.string [115, 112, 101, 110, 116]), .lit (.string [101, 118, 105, 99, 116, 101, 100]), .lit (.string [108, 97, 116, 101]), .lit (.string [102, 97, 105, 108, 101, 100]), .lit (.string [99, 117, 116]), .lit (.string [115, 116, 97, 114, 118, 101, 100]), .lit (.string [98, 114, 111, 107, 101, 110])]

/-- 'lockkeeperlaw25.ReplyGets': WHATEVER THE INPUT: true; the input reads as it did. -/
def replyGetsSpec : ChangeSpec := { name := "replyGets", fn := fun _ => fun
  | [d1, d2, d3] => { results := [.lit (.bool true)], args := [d1, d2, d3] }
  | _ => none }
def replyGetsRow : OpenClaim := { program := "ytgkmmoiniidhlaadoor", sum := "c227516666e1d8556e428ab36d3f250fed328a9ddd41567417a7d3faea04e8c6", func := "lockkeeper/lockkeeperlaw25.ReplyGets", spec := "replyGets", unfollowed := true, recurses := true, named := ["lockkeeper/reply.names"], apart := false, laid := [("lockkeeper/reply.names", laid_lockkeeper_reply_names)] }
def ReplyGetsSaid : Prop := replyGetsRow.holds Tryd.pinned (OpenSpec.ofChange replyGetsSpec)

/-- ITS FALSE NEIGHBOUR: 'it returns false'. Refute it at one input. -/
def replyGetsWrong : ChangeSpec := { name := "replyGets", fn := fun _ => fun
  | [d1, d2, d3] => { results := [.lit (.bool false)], args := [d1, d2, d3] }
  | _ => none }
def ReplyGetsWrongFalsely : Prop := replyGetsRow.holds Tryd.pinned (OpenSpec.ofChange replyGetsWrong)

/-- 'lockkeeperlaw25.ReplyBack': WHATEVER THE INPUT: true; the input reads as it did. -/
def replyBackSpec : ChangeSpec := { name := "replyBack", fn := fun _ => fun
  | [d1, d2] => { results := [.lit (.bool true)], args := [d1, d2] }
  | _ => none }
def replyBackRow : OpenClaim := { program := "ytgkmmoiniidhlaadoor", sum := "c227516666e1d8556e428ab36d3f250fed328a9ddd41567417a7d3faea04e8c6", func := "lockkeeper/lockkeeperlaw25.ReplyBack", spec := "replyBack", unfollowed := true, recurses := true, named := ["lockkeeper/reply.names"], apart := false, laid := [("lockkeeper/reply.names", laid_lockkeeper_reply_names)] }
def ReplyBackSaid : Prop := replyBackRow.holds Tryd.pinned (OpenSpec.ofChange replyBackSpec)

/-- ITS FALSE NEIGHBOUR: 'it returns false'. Refute it at one input. -/
def replyBackWrong : ChangeSpec := { name := "replyBack", fn := fun _ => fun
  | [d1, d2] => { results := [.lit (.bool false)], args := [d1, d2] }
  | _ => none }
def ReplyBackWrongFalsely : Prop := replyBackRow.holds Tryd.pinned (OpenSpec.ofChange replyBackWrong)

/-- 'lockkeeperlaw25.ReplyPuts': WHATEVER THE INPUT: true; the input reads as it did. -/
def replyPutsSpec : ChangeSpec := { name := "replyPuts", fn := fun _ => fun
  | [d1, d2] => { results := [.lit (.bool true)], args := [d1, d2] }
  | _ => none }
def replyPutsRow : OpenClaim := { program := "ytgkmmoiniidhlaadoor", sum := "c227516666e1d8556e428ab36d3f250fed328a9ddd41567417a7d3faea04e8c6", func := "lockkeeper/lockkeeperlaw25.ReplyPuts", spec := "replyPuts", unfollowed := true, recurses := true, named := ["lockkeeper/reply.names"], apart := false, laid := [("lockkeeper/reply.names", laid_lockkeeper_reply_names)] }
def ReplyPutsSaid : Prop := replyPutsRow.holds Tryd.pinned (OpenSpec.ofChange replyPutsSpec)

/-- ITS FALSE NEIGHBOUR: 'it returns false'. Refute it at one input. -/
def replyPutsWrong : ChangeSpec := { name := "replyPuts", fn := fun _ => fun
  | [d1, d2] => { results := [.lit (.bool false)], args := [d1, d2] }
  | _ => none }
def ReplyPutsWrongFalsely : Prop := replyPutsRow.holds Tryd.pinned (OpenSpec.ofChange replyPutsWrong)

/- THE SECOND FORM. 'bulk': how many values and letters a reading holds, each counted each time it is reached (what is shared counts as often as it is met; a slice's spare places count too). A statement '..UptoSaid' is the law's where the arguments, and the package variables that the reading takes, are together of bulk at most 1048576: NARROWER than '..Said'. Prove '..Said' where nothing that the law and all that it calls make is longer than what came in: it says more and counts as full. Else prove '..UptoSaid'. A law counts once. -/
mutual
def uptoBulk {H : Type} : DataW H → Nat
  | .lit (.string bytes) => bytes.length + 1
  | .lit _ => 1
  | .nil => 1
  | .ptr d => uptoBulk d + 1
  | .slice elems spare => uptoBulkAll elems + uptoBulkAll spare + 1
  | .agg parts => uptoBulkAll parts + 1
  | .iface _ d => uptoBulk d + 1
  | .map entries => uptoBulkEntries entries + 1
  | .held _ => 1
def uptoBulkAll {H : Type} : List (DataW H) → Nat
  | [] => 0
  | d :: r => uptoBulk d + uptoBulkAll r
def uptoBulkEntries {H : Type} : List (Lit × DataW H) → Nat
  | [] => 0
  | x :: r => uptoBulkEntry x + uptoBulkEntries r
def uptoBulkEntry {H : Type} : Lit × DataW H → Nat
  | (.string bytes, d) => bytes.length + uptoBulk d + 1
  | (_, d) => uptoBulk d + 1
 end
def uptoSmall : (H : Type) → List (DataW H) → Bool := fun _ ds => decide (uptoBulkAll ds ≤ 1048576)
def OpenSpec.upto (s : _root_.Go.ChangeSpec) : _root_.Go.OpenSpec := { _root_.Go.OpenSpec.ofChange s with cond := some uptoSmall }

/-- 'lockkeeperlaw25.ReplyGets', WHERE WHAT IT READS IS OF BULK AT MOST 1048576: true; the input reads as it did. -/
def replyGetsUptoRow : OpenClaim := { program := "ytgkmmoiniidhlaadoor", sum := "c227516666e1d8556e428ab36d3f250fed328a9ddd41567417a7d3faea04e8c6", func := "lockkeeper/lockkeeperlaw25.ReplyGets", spec := "replyGets", unfollowed := true, recurses := true, named := ["lockkeeper/reply.names"], apart := false, laid := [("lockkeeper/reply.names", laid_lockkeeper_reply_names)], narrowed := true }
def ReplyGetsUptoSaid : Prop := replyGetsUptoRow.holds Tryd.pinned (OpenSpec.upto replyGetsSpec)

/-- 'lockkeeperlaw25.ReplyBack', WHERE WHAT IT READS IS OF BULK AT MOST 1048576: true; the input reads as it did. -/
def replyBackUptoRow : OpenClaim := { program := "ytgkmmoiniidhlaadoor", sum := "c227516666e1d8556e428ab36d3f250fed328a9ddd41567417a7d3faea04e8c6", func := "lockkeeper/lockkeeperlaw25.ReplyBack", spec := "replyBack", unfollowed := true, recurses := true, named := ["lockkeeper/reply.names"], apart := false, laid := [("lockkeeper/reply.names", laid_lockkeeper_reply_names)], narrowed := true }
def ReplyBackUptoSaid : Prop := replyBackUptoRow.holds Tryd.pinned (OpenSpec.upto replyBackSpec)

/-- 'lockkeeperlaw25.ReplyPuts', WHERE WHAT IT READS IS OF BULK AT MOST 1048576: true; the input reads as it did. -/
def replyPutsUptoRow : OpenClaim := { program := "ytgkmmoiniidhlaadoor", sum := "c227516666e1d8556e428ab36d3f250fed328a9ddd41567417a7d3faea04e8c6", func := "lockkeeper/lockkeeperlaw25.ReplyPuts", spec := "replyPuts", unfollowed := true, recurses := true, named := ["lockkeeper/reply.names"], apart := false, laid := [("lockkeeper/reply.names", laid_lockkeeper_reply_names)], narrowed := true }
def ReplyPutsUptoSaid : Prop := replyPutsUptoRow.holds Tryd.pinned (OpenSpec.upto replyPutsSpec)

end Rows
end Go.Proofs.YtgkmmoiniidhlaaDoor
