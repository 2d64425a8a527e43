/-
  DERIVED. GIVEN WITH THE SEED: THE CARDS: each row of YtahckodhnkloeaaGreatDoorRows.lean that lists a variable, with what it lists TIED to the program's text (the seventh form; the later family's looks); each row that meets fmt, with fmt's text TOLD by the authors' own Lean function (tested against real Go, not proved from fmt's source: count such statements apart). THE CARD IS WHAT COUNTS. Prove the row's statement (the work); the ties are given (YtahckodhnkloeaaGreatDoorTie.lean); close each card by the builder's one call (the guide's Derived/Test/ToyasCard.lean, 'card_holds'). Laid BY PROGRAM, IN A SANDBOX (cutbox-door.mjs). By AI agents, Wed Nov 11 2026. No macro, syntax, notation, axiom, sorry.
-/
import Derived.Test.YtahckodhnkloeaaGreatDoorRows
import GoSem.ClaimSeven
namespace Go.Proofs.YtahckodhnkloeaaGreatDoor
namespace Rows

/-- THE TIED CARD OF 'watershedlaw14.ActTells'. -/
def actTellsCard : Claim7 := { stood := { row := actTellsRow, standIns := [], harness := (true, "d8f27bcfc8a65f3839317db48534582050d3eca6382a4f0dd39bb30c1a391a28"), looks := true }, kinds := [], alts := [], laidByText := true, laidKinds := [.data, .data, .data, .data, .sentinel, .sentinel, .pinned], laidTests := true, laidLooks := .later }
def ActTellsCardSaid : Prop := Claim7.holds Tryz.pinned (.plain (OpenSpec.ofChange actTellsSpec)) actTellsCard

/-- THE TIED CARD OF 'watershedlaw14.ActEnds'. -/
def actEndsCard : Claim7 := { stood := { row := actEndsRow, standIns := [], harness := (true, "d8f27bcfc8a65f3839317db48534582050d3eca6382a4f0dd39bb30c1a391a28"), looks := true }, kinds := [], alts := [], laidByText := true, laidKinds := [.data, .data, .data, .data, .sentinel, .sentinel, .pinned], laidTests := true, laidLooks := .later }
def ActEndsCardSaid : Prop := Claim7.holds Tryz.pinned (.plain (OpenSpec.ofChange actEndsSpec)) actEndsCard

/-- THE TIED CARD OF 'watershedlaw30.WitnessOrders'. -/
def witnessOrdersCard : Claim7 := { stood := { row := witnessOrdersRow, standIns := [], harness := (true, "d8f27bcfc8a65f3839317db48534582050d3eca6382a4f0dd39bb30c1a391a28"), looks := true }, kinds := [], alts := [], laidByText := true, laidKinds := [.data, .data, .data, .data, .sentinel, .sentinel, .pinned], laidTests := true, laidLooks := .later }
def WitnessOrdersCardSaid : Prop := Claim7.holds Tryz.pinned (.plain (OpenSpec.ofChange witnessOrdersSpec)) witnessOrdersCard

/-- THE TIED CARD OF 'watershedlaw30.WitnessDoes'. -/
def witnessDoesCard : Claim7 := { stood := { row := witnessDoesRow, standIns := [], harness := (true, "d8f27bcfc8a65f3839317db48534582050d3eca6382a4f0dd39bb30c1a391a28"), looks := true }, kinds := [], alts := [], laidByText := true, laidKinds := [.data, .data, .data, .data, .sentinel, .sentinel, .pinned], laidTests := true, laidLooks := .later }
def WitnessDoesCardSaid : Prop := Claim7.holds Tryz.pinned (.plain (OpenSpec.ofChange witnessDoesSpec)) witnessDoesCard

/-- THE TIED CARD OF 'watershedlaw30.WitnessApart'. -/
def witnessApartCard : Claim7 := { stood := { row := witnessApartRow, standIns := [], harness := (true, "d8f27bcfc8a65f3839317db48534582050d3eca6382a4f0dd39bb30c1a391a28"), looks := true }, kinds := [], alts := [], laidByText := true, laidKinds := [.data, .data, .data, .data, .sentinel, .sentinel, .pinned], laidTests := true, laidLooks := .later }
def WitnessApartCardSaid : Prop := Claim7.holds Tryz.pinned (.plain (OpenSpec.ofChange witnessApartSpec)) witnessApartCard

/-- THE TIED CARD OF 'watershedlaw30.WitnessTells'. -/
def witnessTellsCard : Claim7 := { stood := { row := witnessTellsRow, standIns := [], harness := (true, "d8f27bcfc8a65f3839317db48534582050d3eca6382a4f0dd39bb30c1a391a28"), looks := true }, kinds := [], alts := [], laidByText := true, laidKinds := [.data, .data, .data, .data, .sentinel, .sentinel, .pinned], laidTests := true, laidLooks := .later }
def WitnessTellsCardSaid : Prop := Claim7.holds Tryz.pinned (.plain (OpenSpec.ofChange witnessTellsSpec)) witnessTellsCard

/-- THE TIED CARD OF 'watershedlaw30.WitnessOrder'. -/
def witnessOrderCard : Claim7 := { stood := { row := witnessOrderRow, standIns := [], harness := (true, "d8f27bcfc8a65f3839317db48534582050d3eca6382a4f0dd39bb30c1a391a28"), looks := true }, kinds := [], alts := [], laidByText := true, laidKinds := [.data, .data, .data, .data, .sentinel, .sentinel, .pinned], laidTests := true, laidLooks := .later }
def WitnessOrderCardSaid : Prop := Claim7.holds Tryz.pinned (.plain (OpenSpec.ofChange witnessOrderSpec)) witnessOrderCard

/-- THE TIED CARD OF 'watershedlaw30.WitnessParts'. -/
def witnessPartsCard : Claim7 := { stood := { row := witnessPartsRow, standIns := [], harness := (true, "d8f27bcfc8a65f3839317db48534582050d3eca6382a4f0dd39bb30c1a391a28"), looks := true }, kinds := [], alts := [], laidByText := true, laidKinds := [.data, .data, .data, .data, .sentinel, .sentinel, .pinned], laidTests := true, laidLooks := .later }
def WitnessPartsCardSaid : Prop := Claim7.holds Tryz.pinned (.plain (OpenSpec.ofChange witnessPartsSpec)) witnessPartsCard

/-- THE TIED CARD OF 'watershedlaw30.WitnessFrom'. -/
def witnessFromCard : Claim7 := { stood := { row := witnessFromRow, standIns := [], harness := (true, "d8f27bcfc8a65f3839317db48534582050d3eca6382a4f0dd39bb30c1a391a28"), looks := true }, kinds := [], alts := [], laidByText := true, laidKinds := [.data, .data, .data, .data, .sentinel, .sentinel, .pinned], laidTests := true, laidLooks := .later }
def WitnessFromCardSaid : Prop := Claim7.holds Tryz.pinned (.plain (OpenSpec.ofChange witnessFromSpec)) witnessFromCard

/-- THE TIED CARD OF 'watershedlaw30.WitnessTales'. -/
def witnessTalesCard : Claim7 := { stood := { row := witnessTalesRow, standIns := [], harness := (true, "d8f27bcfc8a65f3839317db48534582050d3eca6382a4f0dd39bb30c1a391a28"), looks := true }, kinds := [], alts := [], laidByText := true, laidKinds := [.data, .data, .data, .data, .sentinel, .sentinel, .pinned], laidTests := true, laidLooks := .later }
def WitnessTalesCardSaid : Prop := Claim7.holds Tryz.pinned (.plain (OpenSpec.ofChange witnessTalesSpec)) witnessTalesCard

/-- THE SECOND FORM's CARD OF 'watershedlaw14.ActTells'. -/
def actTellsUptoCard : Claim7 := { stood := { row := actTellsUptoRow, standIns := [], harness := (true, "d8f27bcfc8a65f3839317db48534582050d3eca6382a4f0dd39bb30c1a391a28"), looks := true }, kinds := [], alts := [], laidByText := true, laidKinds := [.data, .data, .data, .data, .sentinel, .sentinel, .pinned], laidTests := true, laidLooks := .later }
def ActTellsUptoCardSaid : Prop := Claim7.holds Tryz.pinned (.plain (OpenSpec.upto actTellsSpec)) actTellsUptoCard

/-- THE SECOND FORM's CARD OF 'watershedlaw14.ActEnds'. -/
def actEndsUptoCard : Claim7 := { stood := { row := actEndsUptoRow, standIns := [], harness := (true, "d8f27bcfc8a65f3839317db48534582050d3eca6382a4f0dd39bb30c1a391a28"), looks := true }, kinds := [], alts := [], laidByText := true, laidKinds := [.data, .data, .data, .data, .sentinel, .sentinel, .pinned], laidTests := true, laidLooks := .later }
def ActEndsUptoCardSaid : Prop := Claim7.holds Tryz.pinned (.plain (OpenSpec.upto actEndsSpec)) actEndsUptoCard

/-- THE SECOND FORM's CARD OF 'watershedlaw30.WitnessOrders'. -/
def witnessOrdersUptoCard : Claim7 := { stood := { row := witnessOrdersUptoRow, standIns := [], harness := (true, "d8f27bcfc8a65f3839317db48534582050d3eca6382a4f0dd39bb30c1a391a28"), looks := true }, kinds := [], alts := [], laidByText := true, laidKinds := [.data, .data, .data, .data, .sentinel, .sentinel, .pinned], laidTests := true, laidLooks := .later }
def WitnessOrdersUptoCardSaid : Prop := Claim7.holds Tryz.pinned (.plain (OpenSpec.upto witnessOrdersSpec)) witnessOrdersUptoCard

/-- THE SECOND FORM's CARD OF 'watershedlaw30.WitnessDoes'. -/
def witnessDoesUptoCard : Claim7 := { stood := { row := witnessDoesUptoRow, standIns := [], harness := (true, "d8f27bcfc8a65f3839317db48534582050d3eca6382a4f0dd39bb30c1a391a28"), looks := true }, kinds := [], alts := [], laidByText := true, laidKinds := [.data, .data, .data, .data, .sentinel, .sentinel, .pinned], laidTests := true, laidLooks := .later }
def WitnessDoesUptoCardSaid : Prop := Claim7.holds Tryz.pinned (.plain (OpenSpec.upto witnessDoesSpec)) witnessDoesUptoCard

/-- THE SECOND FORM's CARD OF 'watershedlaw30.WitnessApart'. -/
def witnessApartUptoCard : Claim7 := { stood := { row := witnessApartUptoRow, standIns := [], harness := (true, "d8f27bcfc8a65f3839317db48534582050d3eca6382a4f0dd39bb30c1a391a28"), looks := true }, kinds := [], alts := [], laidByText := true, laidKinds := [.data, .data, .data, .data, .sentinel, .sentinel, .pinned], laidTests := true, laidLooks := .later }
def WitnessApartUptoCardSaid : Prop := Claim7.holds Tryz.pinned (.plain (OpenSpec.upto witnessApartSpec)) witnessApartUptoCard

/-- THE SECOND FORM's CARD OF 'watershedlaw30.WitnessTells'. -/
def witnessTellsUptoCard : Claim7 := { stood := { row := witnessTellsUptoRow, standIns := [], harness := (true, "d8f27bcfc8a65f3839317db48534582050d3eca6382a4f0dd39bb30c1a391a28"), looks := true }, kinds := [], alts := [], laidByText := true, laidKinds := [.data, .data, .data, .data, .sentinel, .sentinel, .pinned], laidTests := true, laidLooks := .later }
def WitnessTellsUptoCardSaid : Prop := Claim7.holds Tryz.pinned (.plain (OpenSpec.upto witnessTellsSpec)) witnessTellsUptoCard

/-- THE SECOND FORM's CARD OF 'watershedlaw30.WitnessOrder'. -/
def witnessOrderUptoCard : Claim7 := { stood := { row := witnessOrderUptoRow, standIns := [], harness := (true, "d8f27bcfc8a65f3839317db48534582050d3eca6382a4f0dd39bb30c1a391a28"), looks := true }, kinds := [], alts := [], laidByText := true, laidKinds := [.data, .data, .data, .data, .sentinel, .sentinel, .pinned], laidTests := true, laidLooks := .later }
def WitnessOrderUptoCardSaid : Prop := Claim7.holds Tryz.pinned (.plain (OpenSpec.upto witnessOrderSpec)) witnessOrderUptoCard

/-- THE SECOND FORM's CARD OF 'watershedlaw30.WitnessParts'. -/
def witnessPartsUptoCard : Claim7 := { stood := { row := witnessPartsUptoRow, standIns := [], harness := (true, "d8f27bcfc8a65f3839317db48534582050d3eca6382a4f0dd39bb30c1a391a28"), looks := true }, kinds := [], alts := [], laidByText := true, laidKinds := [.data, .data, .data, .data, .sentinel, .sentinel, .pinned], laidTests := true, laidLooks := .later }
def WitnessPartsUptoCardSaid : Prop := Claim7.holds Tryz.pinned (.plain (OpenSpec.upto witnessPartsSpec)) witnessPartsUptoCard

/-- THE SECOND FORM's CARD OF 'watershedlaw30.WitnessFrom'. -/
def witnessFromUptoCard : Claim7 := { stood := { row := witnessFromUptoRow, standIns := [], harness := (true, "d8f27bcfc8a65f3839317db48534582050d3eca6382a4f0dd39bb30c1a391a28"), looks := true }, kinds := [], alts := [], laidByText := true, laidKinds := [.data, .data, .data, .data, .sentinel, .sentinel, .pinned], laidTests := true, laidLooks := .later }
def WitnessFromUptoCardSaid : Prop := Claim7.holds Tryz.pinned (.plain (OpenSpec.upto witnessFromSpec)) witnessFromUptoCard

/-- THE SECOND FORM's CARD OF 'watershedlaw30.WitnessTales'. -/
def witnessTalesUptoCard : Claim7 := { stood := { row := witnessTalesUptoRow, standIns := [], harness := (true, "d8f27bcfc8a65f3839317db48534582050d3eca6382a4f0dd39bb30c1a391a28"), looks := true }, kinds := [], alts := [], laidByText := true, laidKinds := [.data, .data, .data, .data, .sentinel, .sentinel, .pinned], laidTests := true, laidLooks := .later }
def WitnessTalesUptoCardSaid : Prop := Claim7.holds Tryz.pinned (.plain (OpenSpec.upto witnessTalesSpec)) witnessTalesUptoCard
end Rows
end Go.Proofs.YtahckodhnkloeaaGreatDoor
