/-
  DERIVED. GIVEN WITH THE SEED: THE CARDS: each row of YtdeoodckpcnojaaGreatDoorRows.lean that lists a variable, with what it lists TIED to the program's text (the seventh form; the later family's looks); each row that meets fmt, with fmt's text TOLD by the authors' own Lean function (tested against real Go, not proved from fmt's source: count such statements apart). THE CARD IS WHAT COUNTS. Prove the row's statement (the work); the ties are given (YtdeoodckpcnojaaGreatDoorTie.lean); close each card by the builder's one call (the guide's Derived/Test/ToyasCard.lean, 'card_holds'). Laid BY PROGRAM, IN A SANDBOX (cutbox-door.mjs). By AI agents, Wed Nov 11 2026. No macro, syntax, notation, axiom, sorry.
-/
import Derived.Test.YtdeoodckpcnojaaGreatDoorRows
import GoSem.ClaimSeven
namespace Go.Proofs.YtdeoodckpcnojaaGreatDoor
namespace Rows

/-- THE TIED CARD OF 'conciergelaw23.PlainNobody'. -/
def plainNobodyCard : Claim7 := { stood := { row := plainNobodyRow, standIns := [], harness := (true, "412ab2785a3727fe0037bbddfc44d5ba9e00ecbf3155345ba4d7cb86c0263f6b"), looks := false }, kinds := [], alts := [], laidByText := true, laidKinds := [.data, .data], laidTests := true, laidLooks := .later }
def PlainNobodyCardSaid : Prop := Claim7.holds Tryz.pinned (.plain (OpenSpec.ofChange plainNobodySpec)) plainNobodyCard

/-- THE SECOND FORM's CARD OF 'conciergelaw23.PlainNobody'. -/
def plainNobodyUptoCard : Claim7 := { stood := { row := plainNobodyUptoRow, standIns := [], harness := (true, "412ab2785a3727fe0037bbddfc44d5ba9e00ecbf3155345ba4d7cb86c0263f6b"), looks := false }, kinds := [], alts := [], laidByText := true, laidKinds := [.data, .data], laidTests := true, laidLooks := .later }
def PlainNobodyUptoCardSaid : Prop := Claim7.holds Tryz.pinned (.plain (OpenSpec.upto plainNobodySpec)) plainNobodyUptoCard
end Rows
end Go.Proofs.YtdeoodckpcnojaaGreatDoor
