/-
  DERIVED. GIVEN WITH THE SEED: THE CARDS: each row of YtlelgbmbmajfmaaGreatDoorRows.lean that lists a variable, with what it lists TIED to the program's text (the seventh form; the later family's looks); each row that meets fmt, with fmt's text TOLD by the authors' own Lean function (tested against real Go, not proved from fmt's source: count such statements apart). THE CARD IS WHAT COUNTS. Prove the row's statement (the work); the ties are given (YtlelgbmbmajfmaaGreatDoorTie.lean); close each card by the builder's one call (the guide's Derived/Test/ToyasCard.lean, 'card_holds'). Laid BY PROGRAM, IN A SANDBOX (cutbox-door.mjs). By AI agents, Wed Nov 11 2026. No macro, syntax, notation, axiom, sorry.
-/
import Derived.Test.YtlelgbmbmajfmaaGreatDoorRows
import GoSem.ClaimSeven
namespace Go.Proofs.YtlelgbmbmajfmaaGreatDoor
namespace Rows

/-- THE TIED CARD OF 'pharostop.TopThree'. -/
def topThreeCard : Claim7 := { stood := { row := topThreeRow, standIns := [], harness := (true, "14e115c74f86fcbd172992372094a14def46402da07db4f5df4ffb86edccd314"), looks := false }, kinds := [], alts := [], laidByText := true, laidKinds := [.data, .data, .data, .data, .data, .pinned], laidTests := true, laidLooks := .later }
def TopThreeCardSaid : Prop := Claim7.holds Tryz.pinned (.plain (OpenSpec.ofChange topThreeSpec)) topThreeCard

/-- THE TIED CARD OF 'pharoslaw20.EvmReckons'. -/
def evmReckonsCard : Claim7 := { stood := { row := evmReckonsRow, standIns := [], harness := (true, "14e115c74f86fcbd172992372094a14def46402da07db4f5df4ffb86edccd314"), looks := false }, kinds := [], alts := [], laidByText := true, laidKinds := [.data, .data, .data, .data, .data, .pinned], laidTests := true, laidLooks := .later }
def EvmReckonsCardSaid : Prop := Claim7.holds Tryz.pinned (.plain (OpenSpec.ofChange evmReckonsSpec)) evmReckonsCard

/-- THE TIED CARD OF 'pharoslaw20.EvmNone'. -/
def evmNoneCard : Claim7 := { stood := { row := evmNoneRow, standIns := [], harness := (true, "14e115c74f86fcbd172992372094a14def46402da07db4f5df4ffb86edccd314"), looks := false }, kinds := [], alts := [], laidByText := true, laidKinds := [.data, .data, .data, .data, .data, .pinned], laidTests := true, laidLooks := .later }
def EvmNoneCardSaid : Prop := Claim7.holds Tryz.pinned (.plain (OpenSpec.ofChange evmNoneSpec)) evmNoneCard

/-- THE TIED CARD OF 'pharoslaw20.EvmEchoes'. -/
def evmEchoesCard : Claim7 := { stood := { row := evmEchoesRow, standIns := [], harness := (true, "14e115c74f86fcbd172992372094a14def46402da07db4f5df4ffb86edccd314"), looks := false }, kinds := [], alts := [], laidByText := true, laidKinds := [.data, .data, .data, .data, .data, .pinned], laidTests := true, laidLooks := .later }
def EvmEchoesCardSaid : Prop := Claim7.holds Tryz.pinned (.plain (OpenSpec.ofChange evmEchoesSpec)) evmEchoesCard

/-- THE TIED CARD OF 'pharoslaw20.EvmKeeps'. -/
def evmKeepsCard : Claim7 := { stood := { row := evmKeepsRow, standIns := [], harness := (true, "14e115c74f86fcbd172992372094a14def46402da07db4f5df4ffb86edccd314"), looks := false }, kinds := [], alts := [], laidByText := true, laidKinds := [.data, .data, .data, .data, .data, .pinned], laidTests := true, laidLooks := .later }
def EvmKeepsCardSaid : Prop := Claim7.holds Tryz.pinned (.plain (OpenSpec.ofChange evmKeepsSpec)) evmKeepsCard

/-- THE TIED CARD OF 'pharoslaw20.EvmStops'. -/
def evmStopsCard : Claim7 := { stood := { row := evmStopsRow, standIns := [], harness := (true, "14e115c74f86fcbd172992372094a14def46402da07db4f5df4ffb86edccd314"), looks := false }, kinds := [], alts := [], laidByText := true, laidKinds := [.data, .data, .data, .data, .data, .pinned], laidTests := true, laidLooks := .later }
def EvmStopsCardSaid : Prop := Claim7.holds Tryz.pinned (.plain (OpenSpec.ofChange evmStopsSpec)) evmStopsCard

/-- THE TIED CARD OF 'pharoslaw20.EvmLeaves'. -/
def evmLeavesCard : Claim7 := { stood := { row := evmLeavesRow, standIns := [], harness := (true, "14e115c74f86fcbd172992372094a14def46402da07db4f5df4ffb86edccd314"), looks := false }, kinds := [], alts := [], laidByText := true, laidKinds := [.data, .data, .data, .data, .data, .pinned], laidTests := true, laidLooks := .later }
def EvmLeavesCardSaid : Prop := Claim7.holds Tryz.pinned (.plain (OpenSpec.ofChange evmLeavesSpec)) evmLeavesCard

/-- THE TIED CARD OF 'pharoslaw20.EvmStatic'. -/
def evmStaticCard : Claim7 := { stood := { row := evmStaticRow, standIns := [], harness := (true, "14e115c74f86fcbd172992372094a14def46402da07db4f5df4ffb86edccd314"), looks := false }, kinds := [], alts := [], laidByText := true, laidKinds := [.data, .data, .data, .data, .data, .pinned], laidTests := true, laidLooks := .later }
def EvmStaticCardSaid : Prop := Claim7.holds Tryz.pinned (.plain (OpenSpec.ofChange evmStaticSpec)) evmStaticCard

/-- THE SECOND FORM's CARD OF 'pharostop.TopThree'. -/
def topThreeUptoCard : Claim7 := { stood := { row := topThreeUptoRow, standIns := [], harness := (true, "14e115c74f86fcbd172992372094a14def46402da07db4f5df4ffb86edccd314"), looks := false }, kinds := [], alts := [], laidByText := true, laidKinds := [.data, .data, .data, .data, .data, .pinned], laidTests := true, laidLooks := .later }
def TopThreeUptoCardSaid : Prop := Claim7.holds Tryz.pinned (.plain (OpenSpec.upto topThreeSpec)) topThreeUptoCard

/-- THE SECOND FORM's CARD OF 'pharoslaw20.EvmReckons'. -/
def evmReckonsUptoCard : Claim7 := { stood := { row := evmReckonsUptoRow, standIns := [], harness := (true, "14e115c74f86fcbd172992372094a14def46402da07db4f5df4ffb86edccd314"), looks := false }, kinds := [], alts := [], laidByText := true, laidKinds := [.data, .data, .data, .data, .data, .pinned], laidTests := true, laidLooks := .later }
def EvmReckonsUptoCardSaid : Prop := Claim7.holds Tryz.pinned (.plain (OpenSpec.upto evmReckonsSpec)) evmReckonsUptoCard

/-- THE SECOND FORM's CARD OF 'pharoslaw20.EvmNone'. -/
def evmNoneUptoCard : Claim7 := { stood := { row := evmNoneUptoRow, standIns := [], harness := (true, "14e115c74f86fcbd172992372094a14def46402da07db4f5df4ffb86edccd314"), looks := false }, kinds := [], alts := [], laidByText := true, laidKinds := [.data, .data, .data, .data, .data, .pinned], laidTests := true, laidLooks := .later }
def EvmNoneUptoCardSaid : Prop := Claim7.holds Tryz.pinned (.plain (OpenSpec.upto evmNoneSpec)) evmNoneUptoCard

/-- THE SECOND FORM's CARD OF 'pharoslaw20.EvmEchoes'. -/
def evmEchoesUptoCard : Claim7 := { stood := { row := evmEchoesUptoRow, standIns := [], harness := (true, "14e115c74f86fcbd172992372094a14def46402da07db4f5df4ffb86edccd314"), looks := false }, kinds := [], alts := [], laidByText := true, laidKinds := [.data, .data, .data, .data, .data, .pinned], laidTests := true, laidLooks := .later }
def EvmEchoesUptoCardSaid : Prop := Claim7.holds Tryz.pinned (.plain (OpenSpec.upto evmEchoesSpec)) evmEchoesUptoCard

/-- THE SECOND FORM's CARD OF 'pharoslaw20.EvmKeeps'. -/
def evmKeepsUptoCard : Claim7 := { stood := { row := evmKeepsUptoRow, standIns := [], harness := (true, "14e115c74f86fcbd172992372094a14def46402da07db4f5df4ffb86edccd314"), looks := false }, kinds := [], alts := [], laidByText := true, laidKinds := [.data, .data, .data, .data, .data, .pinned], laidTests := true, laidLooks := .later }
def EvmKeepsUptoCardSaid : Prop := Claim7.holds Tryz.pinned (.plain (OpenSpec.upto evmKeepsSpec)) evmKeepsUptoCard

/-- THE SECOND FORM's CARD OF 'pharoslaw20.EvmStops'. -/
def evmStopsUptoCard : Claim7 := { stood := { row := evmStopsUptoRow, standIns := [], harness := (true, "14e115c74f86fcbd172992372094a14def46402da07db4f5df4ffb86edccd314"), looks := false }, kinds := [], alts := [], laidByText := true, laidKinds := [.data, .data, .data, .data, .data, .pinned], laidTests := true, laidLooks := .later }
def EvmStopsUptoCardSaid : Prop := Claim7.holds Tryz.pinned (.plain (OpenSpec.upto evmStopsSpec)) evmStopsUptoCard

/-- THE SECOND FORM's CARD OF 'pharoslaw20.EvmLeaves'. -/
def evmLeavesUptoCard : Claim7 := { stood := { row := evmLeavesUptoRow, standIns := [], harness := (true, "14e115c74f86fcbd172992372094a14def46402da07db4f5df4ffb86edccd314"), looks := false }, kinds := [], alts := [], laidByText := true, laidKinds := [.data, .data, .data, .data, .data, .pinned], laidTests := true, laidLooks := .later }
def EvmLeavesUptoCardSaid : Prop := Claim7.holds Tryz.pinned (.plain (OpenSpec.upto evmLeavesSpec)) evmLeavesUptoCard

/-- THE SECOND FORM's CARD OF 'pharoslaw20.EvmStatic'. -/
def evmStaticUptoCard : Claim7 := { stood := { row := evmStaticUptoRow, standIns := [], harness := (true, "14e115c74f86fcbd172992372094a14def46402da07db4f5df4ffb86edccd314"), looks := false }, kinds := [], alts := [], laidByText := true, laidKinds := [.data, .data, .data, .data, .data, .pinned], laidTests := true, laidLooks := .later }
def EvmStaticUptoCardSaid : Prop := Claim7.holds Tryz.pinned (.plain (OpenSpec.upto evmStaticSpec)) evmStaticUptoCard
end Rows
end Go.Proofs.YtlelgbmbmajfmaaGreatDoor
