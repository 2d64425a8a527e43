/-
  DERIVED. GIVEN WITH THE SEED: THE CARDS: each row of YtneekkdoabpilaaDoorRows.lean that lists a variable, with what it lists TIED to the program's text (the seventh form; the later family's looks); each row that meets fmt, with fmt's text TOLD by the authors' own Lean function (tested against real Go, not proved from fmt's source: count such statements apart). THE CARD IS WHAT COUNTS. Prove the row's statement (the work); the ties are given (YtneekkdoabpilaaDoorTie.lean); close each card by the builder's one call (the guide's Derived/Test/ToyasCard.lean, 'card_holds'). Laid BY PROGRAM, IN A SANDBOX (cutbox-door.mjs). By AI agents, Wed Nov 11 2026. No macro, syntax, notation, axiom, sorry.
-/
import Derived.Test.YtneekkdoabpilaaDoorRows
import GoSem.ClaimSeven
namespace Go.Proofs.YtneekkdoabpilaaDoor
namespace Rows

/-- THE TIED CARD OF 'watershedlaw14.ActValues'. -/
def actValuesCard : Claim7 := { stood := { row := actValuesRow, standIns := [], harness := (true, "db9f079abb6bc5fa52e4d249316dd83afc81c8ec4a0b34b087fd62cabed20f10"), looks := true }, kinds := [], alts := [], laidByText := true, laidKinds := [.data, .data, .data, .data, .sentinel, .sentinel, .pinned], laidTests := true, laidLooks := .later }
def ActValuesCardSaid : Prop := Claim7.holds Tryd.pinned (.plain (OpenSpec.ofChange actValuesSpec)) actValuesCard

/-- THE TIED CARD OF 'watershedlaw14.ActParts'. -/
def actPartsCard : Claim7 := { stood := { row := actPartsRow, standIns := [], harness := (true, "db9f079abb6bc5fa52e4d249316dd83afc81c8ec4a0b34b087fd62cabed20f10"), looks := true }, kinds := [], alts := [], laidByText := true, laidKinds := [.data, .data, .data, .data, .sentinel, .sentinel, .pinned], laidTests := true, laidLooks := .later }
def ActPartsCardSaid : Prop := Claim7.holds Tryd.pinned (.plain (OpenSpec.ofChange actPartsSpec)) actPartsCard

/-- THE TIED CARD OF 'watershedlaw14.ActRound'. -/
def actRoundCard : Claim7 := { stood := { row := actRoundRow, standIns := [], harness := (true, "db9f079abb6bc5fa52e4d249316dd83afc81c8ec4a0b34b087fd62cabed20f10"), looks := true }, kinds := [], alts := [], laidByText := true, laidKinds := [.data, .data, .data, .data, .sentinel, .sentinel, .pinned], laidTests := true, laidLooks := .later }
def ActRoundCardSaid : Prop := Claim7.holds Tryd.pinned (.plain (OpenSpec.ofChange actRoundSpec)) actRoundCard

/-- THE SECOND FORM's CARD OF 'watershedlaw14.ActValues'. -/
def actValuesUptoCard : Claim7 := { stood := { row := actValuesUptoRow, standIns := [], harness := (true, "db9f079abb6bc5fa52e4d249316dd83afc81c8ec4a0b34b087fd62cabed20f10"), looks := true }, kinds := [], alts := [], laidByText := true, laidKinds := [.data, .data, .data, .data, .sentinel, .sentinel, .pinned], laidTests := true, laidLooks := .later }
def ActValuesUptoCardSaid : Prop := Claim7.holds Tryd.pinned (.plain (OpenSpec.upto actValuesSpec)) actValuesUptoCard

/-- THE SECOND FORM's CARD OF 'watershedlaw14.ActParts'. -/
def actPartsUptoCard : Claim7 := { stood := { row := actPartsUptoRow, standIns := [], harness := (true, "db9f079abb6bc5fa52e4d249316dd83afc81c8ec4a0b34b087fd62cabed20f10"), looks := true }, kinds := [], alts := [], laidByText := true, laidKinds := [.data, .data, .data, .data, .sentinel, .sentinel, .pinned], laidTests := true, laidLooks := .later }
def ActPartsUptoCardSaid : Prop := Claim7.holds Tryd.pinned (.plain (OpenSpec.upto actPartsSpec)) actPartsUptoCard

/-- THE SECOND FORM's CARD OF 'watershedlaw14.ActRound'. -/
def actRoundUptoCard : Claim7 := { stood := { row := actRoundUptoRow, standIns := [], harness := (true, "db9f079abb6bc5fa52e4d249316dd83afc81c8ec4a0b34b087fd62cabed20f10"), looks := true }, kinds := [], alts := [], laidByText := true, laidKinds := [.data, .data, .data, .data, .sentinel, .sentinel, .pinned], laidTests := true, laidLooks := .later }
def ActRoundUptoCardSaid : Prop := Claim7.holds Tryd.pinned (.plain (OpenSpec.upto actRoundSpec)) actRoundUptoCard
end Rows
end Go.Proofs.YtneekkdoabpilaaDoor
