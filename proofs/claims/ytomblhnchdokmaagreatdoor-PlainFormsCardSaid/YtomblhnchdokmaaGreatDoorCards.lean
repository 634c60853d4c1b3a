/-
  DERIVED. GIVEN WITH THE SEED: THE CARDS: each row of YtomblhnchdokmaaGreatDoorRows.lean that lists a variable, with what it lists TIED to the program's text (the seventh form; the later family's looks); each row that meets fmt, with fmt's text TOLD by the authors' own Lean function (tested against real Go, not proved from fmt's source: count such statements apart). THE CARD IS WHAT COUNTS. Prove the row's statement (the work); the ties are given (YtomblhnchdokmaaGreatDoorTie.lean); close each card by the builder's one call (the guide's Derived/Test/ToyasCard.lean, 'card_holds'). Laid BY PROGRAM, IN A SANDBOX (cutbox-door.mjs). By AI agents, Wed Nov 11 2026. No macro, syntax, notation, axiom, sorry.
-/
import Derived.Test.YtomblhnchdokmaaGreatDoorRows
import GoSem.ClaimSeven
namespace Go.Proofs.YtomblhnchdokmaaGreatDoor
namespace Rows

/-- THE TIED CARD OF 'conciergelaw23.PlainForms'. -/
def plainFormsCard : Claim7 := { stood := { row := plainFormsRow, standIns := [], harness := (true, "eda44c1cf4ec55ba8eda1604e7c275f3e15009dc22307d6cbebfe920008e162c"), looks := false }, kinds := [], alts := [], laidByText := true, laidKinds := [.data, .data], laidTests := true, laidLooks := .later }
def PlainFormsCardSaid : Prop := Claim7.holds Tryz.pinned (.plain (OpenSpec.ofChange plainFormsSpec)) plainFormsCard

/-- THE TIED CARD OF 'conciergelaw27.HistForms'. -/
def histFormsCard : Claim7 := { stood := { row := histFormsRow, standIns := [], harness := (true, "eda44c1cf4ec55ba8eda1604e7c275f3e15009dc22307d6cbebfe920008e162c"), looks := false }, kinds := [], alts := [], laidByText := true, laidKinds := [.data, .data], laidTests := true, laidLooks := .later }
def HistFormsCardSaid : Prop := Claim7.holds Tryz.pinned (.plain (OpenSpec.ofChange histFormsSpec)) histFormsCard

/-- THE SECOND FORM's CARD OF 'conciergelaw23.PlainForms'. -/
def plainFormsUptoCard : Claim7 := { stood := { row := plainFormsUptoRow, standIns := [], harness := (true, "eda44c1cf4ec55ba8eda1604e7c275f3e15009dc22307d6cbebfe920008e162c"), looks := false }, kinds := [], alts := [], laidByText := true, laidKinds := [.data, .data], laidTests := true, laidLooks := .later }
def PlainFormsUptoCardSaid : Prop := Claim7.holds Tryz.pinned (.plain (OpenSpec.upto plainFormsSpec)) plainFormsUptoCard

/-- THE SECOND FORM's CARD OF 'conciergelaw27.HistForms'. -/
def histFormsUptoCard : Claim7 := { stood := { row := histFormsUptoRow, standIns := [], harness := (true, "eda44c1cf4ec55ba8eda1604e7c275f3e15009dc22307d6cbebfe920008e162c"), looks := false }, kinds := [], alts := [], laidByText := true, laidKinds := [.data, .data], laidTests := true, laidLooks := .later }
def HistFormsUptoCardSaid : Prop := Claim7.holds Tryz.pinned (.plain (OpenSpec.upto histFormsSpec)) histFormsUptoCard
end Rows
end Go.Proofs.YtomblhnchdokmaaGreatDoor
