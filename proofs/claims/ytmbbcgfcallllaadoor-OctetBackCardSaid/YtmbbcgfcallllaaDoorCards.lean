/-
  DERIVED. GIVEN WITH THE SEED: THE CARDS: each row of YtmbbcgfcallllaaDoorRows.lean that lists a variable, with what it lists TIED to the program's text (the seventh form; the later family's looks); each row that meets fmt, with fmt's text TOLD by the authors' own Lean function (tested against real Go, not proved from fmt's source: count such statements apart). THE CARD IS WHAT COUNTS. Prove the row's statement (the work); the ties are given (YtmbbcgfcallllaaDoorTie.lean); close each card by the builder's one call (the guide's Derived/Test/ToyasCard.lean, 'card_holds'). Laid BY PROGRAM, IN A SANDBOX (cutbox-door.mjs). By AI agents, Wed Nov 11 2026. No macro, syntax, notation, axiom, sorry.
-/
import Derived.Test.YtmbbcgfcallllaaDoorRows
import GoSem.ClaimSeven
namespace Go.Proofs.YtmbbcgfcallllaaDoor
namespace Rows

/-- THE TIED CARD OF 'conciergelaw01.OctetEqual'. -/
def octetEqualCard : Claim7 := { stood := { row := octetEqualRow, standIns := [], harness := (true, "7541960f6faa30a3690e80f1b7ae14a7e393c1819908a8e96d698406c0072424"), looks := false }, kinds := [], alts := [], laidByText := true, laidKinds := [.data, .pinned], laidTests := true, laidLooks := .later }
def OctetEqualCardSaid : Prop := Claim7.holds Tryd.pinned (.plain (OpenSpec.ofChange octetEqualSpec)) octetEqualCard

/-- THE TIED CARD OF 'conciergelaw01.OctetOrder'. -/
def octetOrderCard : Claim7 := { stood := { row := octetOrderRow, standIns := [], harness := (true, "7541960f6faa30a3690e80f1b7ae14a7e393c1819908a8e96d698406c0072424"), looks := false }, kinds := [], alts := [], laidByText := true, laidKinds := [.data, .pinned], laidTests := true, laidLooks := .later }
def OctetOrderCardSaid : Prop := Claim7.holds Tryd.pinned (.plain (OpenSpec.ofChange octetOrderSpec)) octetOrderCard

/-- THE TIED CARD OF 'conciergelaw01.OctetTexts'. -/
def octetTextsCard : Claim7 := { stood := { row := octetTextsRow, standIns := [], harness := (true, "7541960f6faa30a3690e80f1b7ae14a7e393c1819908a8e96d698406c0072424"), looks := false }, kinds := [], alts := [], laidByText := true, laidKinds := [.data, .pinned], laidTests := true, laidLooks := .later }
def OctetTextsCardSaid : Prop := Claim7.holds Tryd.pinned (.plain (OpenSpec.ofChange octetTextsSpec)) octetTextsCard

/-- THE TIED CARD OF 'conciergelaw01.OctetNumbers'. -/
def octetNumbersCard : Claim7 := { stood := { row := octetNumbersRow, standIns := [], harness := (true, "7541960f6faa30a3690e80f1b7ae14a7e393c1819908a8e96d698406c0072424"), looks := false }, kinds := [], alts := [], laidByText := true, laidKinds := [.data, .pinned], laidTests := true, laidLooks := .later }
def OctetNumbersCardSaid : Prop := Claim7.holds Tryd.pinned (.plain (OpenSpec.ofChange octetNumbersSpec)) octetNumbersCard

/-- THE TIED CARD OF 'conciergelaw01.OctetAddresses'. -/
def octetAddressesCard : Claim7 := { stood := { row := octetAddressesRow, standIns := [], harness := (true, "7541960f6faa30a3690e80f1b7ae14a7e393c1819908a8e96d698406c0072424"), looks := false }, kinds := [], alts := [], laidByText := true, laidKinds := [.data, .pinned], laidTests := true, laidLooks := .later }
def OctetAddressesCardSaid : Prop := Claim7.holds Tryd.pinned (.plain (OpenSpec.ofChange octetAddressesSpec)) octetAddressesCard

/-- THE TIED CARD OF 'conciergelaw01.OctetBack'. -/
def octetBackCard : Claim7 := { stood := { row := octetBackRow, standIns := [], harness := (true, "7541960f6faa30a3690e80f1b7ae14a7e393c1819908a8e96d698406c0072424"), looks := false }, kinds := [], alts := [], laidByText := true, laidKinds := [.data, .pinned], laidTests := true, laidLooks := .later }
def OctetBackCardSaid : Prop := Claim7.holds Tryd.pinned (.plain (OpenSpec.ofChange octetBackSpec)) octetBackCard

/-- THE SECOND FORM's CARD OF 'conciergelaw01.OctetEqual'. -/
def octetEqualUptoCard : Claim7 := { stood := { row := octetEqualUptoRow, standIns := [], harness := (true, "7541960f6faa30a3690e80f1b7ae14a7e393c1819908a8e96d698406c0072424"), looks := false }, kinds := [], alts := [], laidByText := true, laidKinds := [.data, .pinned], laidTests := true, laidLooks := .later }
def OctetEqualUptoCardSaid : Prop := Claim7.holds Tryd.pinned (.plain (OpenSpec.upto octetEqualSpec)) octetEqualUptoCard

/-- THE SECOND FORM's CARD OF 'conciergelaw01.OctetOrder'. -/
def octetOrderUptoCard : Claim7 := { stood := { row := octetOrderUptoRow, standIns := [], harness := (true, "7541960f6faa30a3690e80f1b7ae14a7e393c1819908a8e96d698406c0072424"), looks := false }, kinds := [], alts := [], laidByText := true, laidKinds := [.data, .pinned], laidTests := true, laidLooks := .later }
def OctetOrderUptoCardSaid : Prop := Claim7.holds Tryd.pinned (.plain (OpenSpec.upto octetOrderSpec)) octetOrderUptoCard

/-- THE SECOND FORM's CARD OF 'conciergelaw01.OctetTexts'. -/
def octetTextsUptoCard : Claim7 := { stood := { row := octetTextsUptoRow, standIns := [], harness := (true, "7541960f6faa30a3690e80f1b7ae14a7e393c1819908a8e96d698406c0072424"), looks := false }, kinds := [], alts := [], laidByText := true, laidKinds := [.data, .pinned], laidTests := true, laidLooks := .later }
def OctetTextsUptoCardSaid : Prop := Claim7.holds Tryd.pinned (.plain (OpenSpec.upto octetTextsSpec)) octetTextsUptoCard

/-- THE SECOND FORM's CARD OF 'conciergelaw01.OctetNumbers'. -/
def octetNumbersUptoCard : Claim7 := { stood := { row := octetNumbersUptoRow, standIns := [], harness := (true, "7541960f6faa30a3690e80f1b7ae14a7e393c1819908a8e96d698406c0072424"), looks := false }, kinds := [], alts := [], laidByText := true, laidKinds := [.data, .pinned], laidTests := true, laidLooks := .later }
def OctetNumbersUptoCardSaid : Prop := Claim7.holds Tryd.pinned (.plain (OpenSpec.upto octetNumbersSpec)) octetNumbersUptoCard

/-- THE SECOND FORM's CARD OF 'conciergelaw01.OctetAddresses'. -/
def octetAddressesUptoCard : Claim7 := { stood := { row := octetAddressesUptoRow, standIns := [], harness := (true, "7541960f6faa30a3690e80f1b7ae14a7e393c1819908a8e96d698406c0072424"), looks := false }, kinds := [], alts := [], laidByText := true, laidKinds := [.data, .pinned], laidTests := true, laidLooks := .later }
def OctetAddressesUptoCardSaid : Prop := Claim7.holds Tryd.pinned (.plain (OpenSpec.upto octetAddressesSpec)) octetAddressesUptoCard

/-- THE SECOND FORM's CARD OF 'conciergelaw01.OctetBack'. -/
def octetBackUptoCard : Claim7 := { stood := { row := octetBackUptoRow, standIns := [], harness := (true, "7541960f6faa30a3690e80f1b7ae14a7e393c1819908a8e96d698406c0072424"), looks := false }, kinds := [], alts := [], laidByText := true, laidKinds := [.data, .pinned], laidTests := true, laidLooks := .later }
def OctetBackUptoCardSaid : Prop := Claim7.holds Tryd.pinned (.plain (OpenSpec.upto octetBackSpec)) octetBackUptoCard
end Rows
end Go.Proofs.YtmbbcgfcallllaaDoor
