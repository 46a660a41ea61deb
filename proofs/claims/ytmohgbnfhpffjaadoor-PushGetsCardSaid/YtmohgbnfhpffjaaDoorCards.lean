/-
  DERIVED. GIVEN WITH THE SEED: THE CARDS: each row of YtmohgbnfhpffjaaDoorRows.lean that lists a variable, with what it lists TIED to the program's text (the seventh form; the later family's looks); each row that meets fmt, with fmt's text TOLD by the authors' own Lean function (tested against real Go, not proved from fmt's source: count such statements apart). THE CARD IS WHAT COUNTS. Prove the row's statement (the work); the ties are given (YtmohgbnfhpffjaaDoorTie.lean); close each card by the builder's one call (the guide's Derived/Test/ToyasCard.lean, 'card_holds'). Laid BY PROGRAM, IN A SANDBOX (cutbox-door.mjs). By AI agents, Wed Nov 11 2026. No macro, syntax, notation, axiom, sorry.
-/
import Derived.Test.YtmohgbnfhpffjaaDoorRows
import GoSem.ClaimSeven
namespace Go.Proofs.YtmohgbnfhpffjaaDoor
namespace Rows

/-- THE TIED CARD OF 'lockkeeperlaw26.PushPuts'. -/
def pushPutsCard : Claim7 := { stood := { row := pushPutsRow, standIns := [], harness := (true, "08a4bb26e2c734e830ad4e7fb13130dba96d45798c85f9ac1a918ce8b95ae9eb"), looks := false }, kinds := [], alts := [], laidByText := true, laidKinds := [.data], laidTests := true, laidLooks := .later }
def PushPutsCardSaid : Prop := Claim7.holds Tryd.pinned (.plain (OpenSpec.ofChange pushPutsSpec)) pushPutsCard

/-- THE TIED CARD OF 'lockkeeperlaw26.PushGets'. -/
def pushGetsCard : Claim7 := { stood := { row := pushGetsRow, standIns := [], harness := (true, "08a4bb26e2c734e830ad4e7fb13130dba96d45798c85f9ac1a918ce8b95ae9eb"), looks := false }, kinds := [], alts := [], laidByText := true, laidKinds := [.data], laidTests := true, laidLooks := .later }
def PushGetsCardSaid : Prop := Claim7.holds Tryd.pinned (.plain (OpenSpec.ofChange pushGetsSpec)) pushGetsCard

/-- THE TIED CARD OF 'lockkeeperlaw26.PushBack'. -/
def pushBackCard : Claim7 := { stood := { row := pushBackRow, standIns := [], harness := (true, "08a4bb26e2c734e830ad4e7fb13130dba96d45798c85f9ac1a918ce8b95ae9eb"), looks := false }, kinds := [], alts := [], laidByText := true, laidKinds := [.data], laidTests := true, laidLooks := .later }
def PushBackCardSaid : Prop := Claim7.holds Tryd.pinned (.plain (OpenSpec.ofChange pushBackSpec)) pushBackCard

/-- THE SECOND FORM's CARD OF 'lockkeeperlaw26.PushPuts'. -/
def pushPutsUptoCard : Claim7 := { stood := { row := pushPutsUptoRow, standIns := [], harness := (true, "08a4bb26e2c734e830ad4e7fb13130dba96d45798c85f9ac1a918ce8b95ae9eb"), looks := false }, kinds := [], alts := [], laidByText := true, laidKinds := [.data], laidTests := true, laidLooks := .later }
def PushPutsUptoCardSaid : Prop := Claim7.holds Tryd.pinned (.plain (OpenSpec.upto pushPutsSpec)) pushPutsUptoCard

/-- THE SECOND FORM's CARD OF 'lockkeeperlaw26.PushGets'. -/
def pushGetsUptoCard : Claim7 := { stood := { row := pushGetsUptoRow, standIns := [], harness := (true, "08a4bb26e2c734e830ad4e7fb13130dba96d45798c85f9ac1a918ce8b95ae9eb"), looks := false }, kinds := [], alts := [], laidByText := true, laidKinds := [.data], laidTests := true, laidLooks := .later }
def PushGetsUptoCardSaid : Prop := Claim7.holds Tryd.pinned (.plain (OpenSpec.upto pushGetsSpec)) pushGetsUptoCard

/-- THE SECOND FORM's CARD OF 'lockkeeperlaw26.PushBack'. -/
def pushBackUptoCard : Claim7 := { stood := { row := pushBackUptoRow, standIns := [], harness := (true, "08a4bb26e2c734e830ad4e7fb13130dba96d45798c85f9ac1a918ce8b95ae9eb"), looks := false }, kinds := [], alts := [], laidByText := true, laidKinds := [.data], laidTests := true, laidLooks := .later }
def PushBackUptoCardSaid : Prop := Claim7.holds Tryd.pinned (.plain (OpenSpec.upto pushBackSpec)) pushBackUptoCard
end Rows
end Go.Proofs.YtmohgbnfhpffjaaDoor
