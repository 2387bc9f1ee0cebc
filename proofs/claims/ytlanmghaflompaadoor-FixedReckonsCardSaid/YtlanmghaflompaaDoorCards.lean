/-
  DERIVED. GIVEN WITH THE SEED: THE CARDS: each row of YtlanmghaflompaaDoorRows.lean that lists a variable, with what it lists TIED to the program's text (the seventh form; the later family's looks); each row that meets fmt, with fmt's text TOLD by the authors' own Lean function (tested against real Go, not proved from fmt's source: count such statements apart). THE CARD IS WHAT COUNTS. Prove the row's statement (the work); the ties are given (YtlanmghaflompaaDoorTie.lean); close each card by the builder's one call (the guide's Derived/Test/ToyasCard.lean, 'card_holds'). Laid BY PROGRAM, IN A SANDBOX (cutbox-door.mjs). By AI agents, Wed Nov 11 2026. No macro, syntax, notation, axiom, sorry.
-/
import Derived.Test.YtlanmghaflompaaDoorRows
import GoSem.ClaimSeven
namespace Go.Proofs.YtlanmghaflompaaDoor
namespace Rows

/-- THE TIED CARD OF 'gauntletlaw8.FixedLaws'. -/
def fixedLawsCard : Claim7 := { stood := { row := fixedLawsRow, standIns := [], harness := (true, "fdf1e82f00f48e15e24560a6e38a3e933892b54050d1384897c72e3356f446c2"), looks := true }, kinds := [], alts := [], laidByText := true, laidKinds := [.data, .data, .data], laidTests := true, laidLooks := .later }
def FixedLawsCardSaid : Prop := Claim7.holds Tryd.pinned (.plain (OpenSpec.ofChange fixedLawsSpec)) fixedLawsCard

/-- THE TIED CARD OF 'gauntletlaw8.FixedOrder'. -/
def fixedOrderCard : Claim7 := { stood := { row := fixedOrderRow, standIns := [], harness := (true, "fdf1e82f00f48e15e24560a6e38a3e933892b54050d1384897c72e3356f446c2"), looks := true }, kinds := [], alts := [], laidByText := true, laidKinds := [.data, .data, .data], laidTests := true, laidLooks := .later }
def FixedOrderCardSaid : Prop := Claim7.holds Tryd.pinned (.plain (OpenSpec.ofChange fixedOrderSpec)) fixedOrderCard

/-- THE TIED CARD OF 'gauntletlaw8.FixedHolds'. -/
def fixedHoldsCard : Claim7 := { stood := { row := fixedHoldsRow, standIns := [], harness := (true, "fdf1e82f00f48e15e24560a6e38a3e933892b54050d1384897c72e3356f446c2"), looks := true }, kinds := [], alts := [], laidByText := true, laidKinds := [.data, .data, .data], laidTests := true, laidLooks := .later }
def FixedHoldsCardSaid : Prop := Claim7.holds Tryd.pinned (.plain (OpenSpec.ofChange fixedHoldsSpec)) fixedHoldsCard

/-- THE TIED CARD OF 'gauntletlaw8.FixedDivides'. -/
def fixedDividesCard : Claim7 := { stood := { row := fixedDividesRow, standIns := [], harness := (true, "fdf1e82f00f48e15e24560a6e38a3e933892b54050d1384897c72e3356f446c2"), looks := true }, kinds := [], alts := [], laidByText := true, laidKinds := [.data, .data, .data], laidTests := true, laidLooks := .later }
def FixedDividesCardSaid : Prop := Claim7.holds Tryd.pinned (.plain (OpenSpec.ofChange fixedDividesSpec)) fixedDividesCard

/-- THE TIED CARD OF 'gauntletlaw8.FixedReckons'. -/
def fixedReckonsCard : Claim7 := { stood := { row := fixedReckonsRow, standIns := [], harness := (true, "fdf1e82f00f48e15e24560a6e38a3e933892b54050d1384897c72e3356f446c2"), looks := true }, kinds := [], alts := [], laidByText := true, laidKinds := [.data, .data, .data], laidTests := true, laidLooks := .later }
def FixedReckonsCardSaid : Prop := Claim7.holds Tryd.pinned (.plain (OpenSpec.ofChange fixedReckonsSpec)) fixedReckonsCard

/-- THE TIED CARD OF 'gauntletlaw8.FixedWhole'. -/
def fixedWholeCard : Claim7 := { stood := { row := fixedWholeRow, standIns := [], harness := (true, "fdf1e82f00f48e15e24560a6e38a3e933892b54050d1384897c72e3356f446c2"), looks := true }, kinds := [], alts := [], laidByText := true, laidKinds := [.data, .data, .data], laidTests := true, laidLooks := .later }
def FixedWholeCardSaid : Prop := Claim7.holds Tryd.pinned (.plain (OpenSpec.ofChange fixedWholeSpec)) fixedWholeCard

/-- THE TIED CARD OF 'gauntletlaw8.FixedTexts'. -/
def fixedTextsCard : Claim7 := { stood := { row := fixedTextsRow, standIns := [], harness := (true, "fdf1e82f00f48e15e24560a6e38a3e933892b54050d1384897c72e3356f446c2"), looks := true }, kinds := [], alts := [], laidByText := true, laidKinds := [.data, .data, .data, .sentinel, .sentinel], laidTests := true, laidLooks := .later }
def FixedTextsCardSaid : Prop := Claim7.holds Tryd.pinned (.plain (OpenSpec.ofChange fixedTextsSpec)) fixedTextsCard

/-- THE SECOND FORM's CARD OF 'gauntletlaw8.FixedLaws'. -/
def fixedLawsUptoCard : Claim7 := { stood := { row := fixedLawsUptoRow, standIns := [], harness := (true, "fdf1e82f00f48e15e24560a6e38a3e933892b54050d1384897c72e3356f446c2"), looks := true }, kinds := [], alts := [], laidByText := true, laidKinds := [.data, .data, .data], laidTests := true, laidLooks := .later }
def FixedLawsUptoCardSaid : Prop := Claim7.holds Tryd.pinned (.plain (OpenSpec.upto fixedLawsSpec)) fixedLawsUptoCard

/-- THE SECOND FORM's CARD OF 'gauntletlaw8.FixedOrder'. -/
def fixedOrderUptoCard : Claim7 := { stood := { row := fixedOrderUptoRow, standIns := [], harness := (true, "fdf1e82f00f48e15e24560a6e38a3e933892b54050d1384897c72e3356f446c2"), looks := true }, kinds := [], alts := [], laidByText := true, laidKinds := [.data, .data, .data], laidTests := true, laidLooks := .later }
def FixedOrderUptoCardSaid : Prop := Claim7.holds Tryd.pinned (.plain (OpenSpec.upto fixedOrderSpec)) fixedOrderUptoCard

/-- THE SECOND FORM's CARD OF 'gauntletlaw8.FixedHolds'. -/
def fixedHoldsUptoCard : Claim7 := { stood := { row := fixedHoldsUptoRow, standIns := [], harness := (true, "fdf1e82f00f48e15e24560a6e38a3e933892b54050d1384897c72e3356f446c2"), looks := true }, kinds := [], alts := [], laidByText := true, laidKinds := [.data, .data, .data], laidTests := true, laidLooks := .later }
def FixedHoldsUptoCardSaid : Prop := Claim7.holds Tryd.pinned (.plain (OpenSpec.upto fixedHoldsSpec)) fixedHoldsUptoCard

/-- THE SECOND FORM's CARD OF 'gauntletlaw8.FixedDivides'. -/
def fixedDividesUptoCard : Claim7 := { stood := { row := fixedDividesUptoRow, standIns := [], harness := (true, "fdf1e82f00f48e15e24560a6e38a3e933892b54050d1384897c72e3356f446c2"), looks := true }, kinds := [], alts := [], laidByText := true, laidKinds := [.data, .data, .data], laidTests := true, laidLooks := .later }
def FixedDividesUptoCardSaid : Prop := Claim7.holds Tryd.pinned (.plain (OpenSpec.upto fixedDividesSpec)) fixedDividesUptoCard

/-- THE SECOND FORM's CARD OF 'gauntletlaw8.FixedReckons'. -/
def fixedReckonsUptoCard : Claim7 := { stood := { row := fixedReckonsUptoRow, standIns := [], harness := (true, "fdf1e82f00f48e15e24560a6e38a3e933892b54050d1384897c72e3356f446c2"), looks := true }, kinds := [], alts := [], laidByText := true, laidKinds := [.data, .data, .data], laidTests := true, laidLooks := .later }
def FixedReckonsUptoCardSaid : Prop := Claim7.holds Tryd.pinned (.plain (OpenSpec.upto fixedReckonsSpec)) fixedReckonsUptoCard

/-- THE SECOND FORM's CARD OF 'gauntletlaw8.FixedWhole'. -/
def fixedWholeUptoCard : Claim7 := { stood := { row := fixedWholeUptoRow, standIns := [], harness := (true, "fdf1e82f00f48e15e24560a6e38a3e933892b54050d1384897c72e3356f446c2"), looks := true }, kinds := [], alts := [], laidByText := true, laidKinds := [.data, .data, .data], laidTests := true, laidLooks := .later }
def FixedWholeUptoCardSaid : Prop := Claim7.holds Tryd.pinned (.plain (OpenSpec.upto fixedWholeSpec)) fixedWholeUptoCard

/-- THE SECOND FORM's CARD OF 'gauntletlaw8.FixedTexts'. -/
def fixedTextsUptoCard : Claim7 := { stood := { row := fixedTextsUptoRow, standIns := [], harness := (true, "fdf1e82f00f48e15e24560a6e38a3e933892b54050d1384897c72e3356f446c2"), looks := true }, kinds := [], alts := [], laidByText := true, laidKinds := [.data, .data, .data, .sentinel, .sentinel], laidTests := true, laidLooks := .later }
def FixedTextsUptoCardSaid : Prop := Claim7.holds Tryd.pinned (.plain (OpenSpec.upto fixedTextsSpec)) fixedTextsUptoCard
end Rows
end Go.Proofs.YtlanmghaflompaaDoor
