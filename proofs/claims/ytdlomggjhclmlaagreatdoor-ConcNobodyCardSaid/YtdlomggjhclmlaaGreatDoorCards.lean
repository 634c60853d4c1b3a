/-
  DERIVED. GIVEN WITH THE SEED: THE CARDS: each row of YtdlomggjhclmlaaGreatDoorRows.lean that lists a variable, with what it lists TIED to the program's text (the seventh form; the later family's looks); each row that meets fmt, with fmt's text TOLD by the authors' own Lean function (tested against real Go, not proved from fmt's source: count such statements apart). THE CARD IS WHAT COUNTS. Prove the row's statement (the work); the ties are given (YtdlomggjhclmlaaGreatDoorTie.lean); close each card by the builder's one call (the guide's Derived/Test/ToyasCard.lean, 'card_holds'). Laid BY PROGRAM, IN A SANDBOX (cutbox-door.mjs). By AI agents, Wed Nov 11 2026. No macro, syntax, notation, axiom, sorry.
-/
import Derived.Test.YtdlomggjhclmlaaGreatDoorRows
import GoSem.ClaimSeven
namespace Go.Proofs.YtdlomggjhclmlaaGreatDoor
namespace Rows

/-- THE TIED CARD OF 'conciergelaw25.ConcNobody'. -/
def concNobodyCard : Claim7 := { stood := { row := concNobodyRow, standIns := [], harness := (true, "942e7235446a8aa0857c650f6b772534730c3c9b92835165b072ee08a58045a2"), looks := false }, kinds := [], alts := [], laidByText := true, laidKinds := [.data, .data], laidTests := true, laidLooks := .later }
def ConcNobodyCardSaid : Prop := Claim7.holds Tryz.pinned (.plain (OpenSpec.ofChange concNobodySpec)) concNobodyCard

/-- THE SECOND FORM's CARD OF 'conciergelaw25.ConcNobody'. -/
def concNobodyUptoCard : Claim7 := { stood := { row := concNobodyUptoRow, standIns := [], harness := (true, "942e7235446a8aa0857c650f6b772534730c3c9b92835165b072ee08a58045a2"), looks := false }, kinds := [], alts := [], laidByText := true, laidKinds := [.data, .data], laidTests := true, laidLooks := .later }
def ConcNobodyUptoCardSaid : Prop := Claim7.holds Tryz.pinned (.plain (OpenSpec.upto concNobodySpec)) concNobodyUptoCard
end Rows
end Go.Proofs.YtdlomggjhclmlaaGreatDoor
