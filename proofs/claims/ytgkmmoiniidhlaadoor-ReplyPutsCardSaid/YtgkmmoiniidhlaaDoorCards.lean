/-
  DERIVED. GIVEN WITH THE SEED: THE CARDS: each row of YtgkmmoiniidhlaaDoorRows.lean that lists a variable, with what it lists TIED to the program's text (the seventh form; the later family's looks); each row that meets fmt, with fmt's text TOLD by the authors' own Lean function (tested against real Go, not proved from fmt's source: count such statements apart). THE CARD IS WHAT COUNTS. Prove the row's statement (the work); the ties are given (YtgkmmoiniidhlaaDoorTie.lean); close each card by the builder's one call (the guide's Derived/Test/ToyasCard.lean, 'card_holds'). Laid BY PROGRAM, IN A SANDBOX (cutbox-door.mjs). By AI agents, Wed Nov 11 2026. No macro, syntax, notation, axiom, sorry.
-/
import Derived.Test.YtgkmmoiniidhlaaDoorRows
import GoSem.ClaimSeven
namespace Go.Proofs.YtgkmmoiniidhlaaDoor
namespace Rows

/-- THE TIED CARD OF 'lockkeeperlaw25.ReplyGets'. -/
def replyGetsCard : Claim7 := { stood := { row := replyGetsRow, standIns := [], harness := (true, "d74fd9ff55d0873bcd73941642573e69d109f573f84c8c6a50b746d2c7b45418"), looks := false }, kinds := [], alts := [], laidByText := true, laidKinds := [.widerDeep], laidTests := true, laidLooks := .later }
def ReplyGetsCardSaid : Prop := Claim7.holds Tryd.pinned (.plain (OpenSpec.ofChange replyGetsSpec)) replyGetsCard

/-- THE TIED CARD OF 'lockkeeperlaw25.ReplyBack'. -/
def replyBackCard : Claim7 := { stood := { row := replyBackRow, standIns := [], harness := (true, "d74fd9ff55d0873bcd73941642573e69d109f573f84c8c6a50b746d2c7b45418"), looks := false }, kinds := [], alts := [], laidByText := true, laidKinds := [.widerDeep], laidTests := true, laidLooks := .later }
def ReplyBackCardSaid : Prop := Claim7.holds Tryd.pinned (.plain (OpenSpec.ofChange replyBackSpec)) replyBackCard

/-- THE TIED CARD OF 'lockkeeperlaw25.ReplyPuts'. -/
def replyPutsCard : Claim7 := { stood := { row := replyPutsRow, standIns := [], harness := (true, "d74fd9ff55d0873bcd73941642573e69d109f573f84c8c6a50b746d2c7b45418"), looks := false }, kinds := [], alts := [], laidByText := true, laidKinds := [.widerDeep], laidTests := true, laidLooks := .later }
def ReplyPutsCardSaid : Prop := Claim7.holds Tryd.pinned (.plain (OpenSpec.ofChange replyPutsSpec)) replyPutsCard

/-- THE SECOND FORM's CARD OF 'lockkeeperlaw25.ReplyGets'. -/
def replyGetsUptoCard : Claim7 := { stood := { row := replyGetsUptoRow, standIns := [], harness := (true, "d74fd9ff55d0873bcd73941642573e69d109f573f84c8c6a50b746d2c7b45418"), looks := false }, kinds := [], alts := [], laidByText := true, laidKinds := [.widerDeep], laidTests := true, laidLooks := .later }
def ReplyGetsUptoCardSaid : Prop := Claim7.holds Tryd.pinned (.plain (OpenSpec.upto replyGetsSpec)) replyGetsUptoCard

/-- THE SECOND FORM's CARD OF 'lockkeeperlaw25.ReplyBack'. -/
def replyBackUptoCard : Claim7 := { stood := { row := replyBackUptoRow, standIns := [], harness := (true, "d74fd9ff55d0873bcd73941642573e69d109f573f84c8c6a50b746d2c7b45418"), looks := false }, kinds := [], alts := [], laidByText := true, laidKinds := [.widerDeep], laidTests := true, laidLooks := .later }
def ReplyBackUptoCardSaid : Prop := Claim7.holds Tryd.pinned (.plain (OpenSpec.upto replyBackSpec)) replyBackUptoCard

/-- THE SECOND FORM's CARD OF 'lockkeeperlaw25.ReplyPuts'. -/
def replyPutsUptoCard : Claim7 := { stood := { row := replyPutsUptoRow, standIns := [], harness := (true, "d74fd9ff55d0873bcd73941642573e69d109f573f84c8c6a50b746d2c7b45418"), looks := false }, kinds := [], alts := [], laidByText := true, laidKinds := [.widerDeep], laidTests := true, laidLooks := .later }
def ReplyPutsUptoCardSaid : Prop := Claim7.holds Tryd.pinned (.plain (OpenSpec.upto replyPutsSpec)) replyPutsUptoCard
end Rows
end Go.Proofs.YtgkmmoiniidhlaaDoor
