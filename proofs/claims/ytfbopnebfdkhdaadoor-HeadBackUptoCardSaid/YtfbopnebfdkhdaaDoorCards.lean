/-
  DERIVED. GIVEN WITH THE SEED: THE CARDS: each row of YtfbopnebfdkhdaaDoorRows.lean that lists a variable, with what it lists TIED to the program's text (the seventh form; the later family's looks); each row that meets fmt, with fmt's text TOLD by the authors' own Lean function (tested against real Go, not proved from fmt's source: count such statements apart). THE CARD IS WHAT COUNTS. Prove the row's statement (the work); the ties are given (YtfbopnebfdkhdaaDoorTie.lean); close each card by the builder's one call (the guide's Derived/Test/ToyasCard.lean, 'card_holds'). Laid BY PROGRAM, IN A SANDBOX (cutbox-door.mjs). By AI agents, Wed Nov 11 2026. No macro, syntax, notation, axiom, sorry.
-/
import Derived.Test.YtfbopnebfdkhdaaDoorRows
import GoSem.ClaimSeven
namespace Go.Proofs.YtfbopnebfdkhdaaDoor
namespace Rows

/-- THE TIED CARD OF 'pharoslaw13.HeadApart'. -/
def headApartCard : Claim7 := { stood := { row := headApartRow, standIns := [], harness := (true, "b29fda5af4b7eeadf4565e56eee63a1b489395bf569e00143b2b5cf8c3313a71"), looks := false }, kinds := [], alts := [], laidByText := true, laidKinds := [.data], laidTests := true, laidLooks := .later }
def HeadApartCardSaid : Prop := Claim7.holds Tryd.pinned (.plain (OpenSpec.ofChange headApartSpec)) headApartCard

/-- THE TIED CARD OF 'pharoslaw13.HeadOne'. -/
def headOneCard : Claim7 := { stood := { row := headOneRow, standIns := [], harness := (true, "b29fda5af4b7eeadf4565e56eee63a1b489395bf569e00143b2b5cf8c3313a71"), looks := false }, kinds := [], alts := [], laidByText := true, laidKinds := [.data], laidTests := true, laidLooks := .later }
def HeadOneCardSaid : Prop := Claim7.holds Tryd.pinned (.plain (OpenSpec.ofChange headOneSpec)) headOneCard

/-- THE TIED CARD OF 'pharoslaw13.HeadRoots'. -/
def headRootsCard : Claim7 := { stood := { row := headRootsRow, standIns := [], harness := (true, "b29fda5af4b7eeadf4565e56eee63a1b489395bf569e00143b2b5cf8c3313a71"), looks := false }, kinds := [], alts := [], laidByText := true, laidKinds := [.data], laidTests := true, laidLooks := .later }
def HeadRootsCardSaid : Prop := Claim7.holds Tryd.pinned (.plain (OpenSpec.ofChange headRootsSpec)) headRootsCard

/-- THE TIED CARD OF 'pharoslaw13.HeadReads'. -/
def headReadsCard : Claim7 := { stood := { row := headReadsRow, standIns := [], harness := (true, "b29fda5af4b7eeadf4565e56eee63a1b489395bf569e00143b2b5cf8c3313a71"), looks := false }, kinds := [], alts := [], laidByText := true, laidKinds := [.data], laidTests := true, laidLooks := .later }
def HeadReadsCardSaid : Prop := Claim7.holds Tryd.pinned (.plain (OpenSpec.ofChange headReadsSpec)) headReadsCard

/-- THE TIED CARD OF 'pharoslaw13.HeadBytes'. -/
def headBytesCard : Claim7 := { stood := { row := headBytesRow, standIns := [], harness := (true, "b29fda5af4b7eeadf4565e56eee63a1b489395bf569e00143b2b5cf8c3313a71"), looks := false }, kinds := [], alts := [], laidByText := true, laidKinds := [.data, .data, .pinned], laidTests := true, laidLooks := .later }
def HeadBytesCardSaid : Prop := Claim7.holds Tryd.pinned (.plain (OpenSpec.ofChange headBytesSpec)) headBytesCard

/-- THE TIED CARD OF 'pharoslaw13.HeadBack'. -/
def headBackCard : Claim7 := { stood := { row := headBackRow, standIns := [], harness := (true, "b29fda5af4b7eeadf4565e56eee63a1b489395bf569e00143b2b5cf8c3313a71"), looks := false }, kinds := [], alts := [], laidByText := true, laidKinds := [.data, .data, .pinned], laidTests := true, laidLooks := .later }
def HeadBackCardSaid : Prop := Claim7.holds Tryd.pinned (.plain (OpenSpec.ofChange headBackSpec)) headBackCard

/-- THE TIED CARD OF 'pharoslaw13.HeadLengths'. -/
def headLengthsCard : Claim7 := { stood := { row := headLengthsRow, standIns := [], harness := (true, "b29fda5af4b7eeadf4565e56eee63a1b489395bf569e00143b2b5cf8c3313a71"), looks := false }, kinds := [], alts := [], laidByText := true, laidKinds := [.data, .data, .pinned], laidTests := true, laidLooks := .later }
def HeadLengthsCardSaid : Prop := Claim7.holds Tryd.pinned (.plain (OpenSpec.ofChange headLengthsSpec)) headLengthsCard

/-- THE SECOND FORM's CARD OF 'pharoslaw13.HeadApart'. -/
def headApartUptoCard : Claim7 := { stood := { row := headApartUptoRow, standIns := [], harness := (true, "b29fda5af4b7eeadf4565e56eee63a1b489395bf569e00143b2b5cf8c3313a71"), looks := false }, kinds := [], alts := [], laidByText := true, laidKinds := [.data], laidTests := true, laidLooks := .later }
def HeadApartUptoCardSaid : Prop := Claim7.holds Tryd.pinned (.plain (OpenSpec.upto headApartSpec)) headApartUptoCard

/-- THE SECOND FORM's CARD OF 'pharoslaw13.HeadOne'. -/
def headOneUptoCard : Claim7 := { stood := { row := headOneUptoRow, standIns := [], harness := (true, "b29fda5af4b7eeadf4565e56eee63a1b489395bf569e00143b2b5cf8c3313a71"), looks := false }, kinds := [], alts := [], laidByText := true, laidKinds := [.data], laidTests := true, laidLooks := .later }
def HeadOneUptoCardSaid : Prop := Claim7.holds Tryd.pinned (.plain (OpenSpec.upto headOneSpec)) headOneUptoCard

/-- THE SECOND FORM's CARD OF 'pharoslaw13.HeadRoots'. -/
def headRootsUptoCard : Claim7 := { stood := { row := headRootsUptoRow, standIns := [], harness := (true, "b29fda5af4b7eeadf4565e56eee63a1b489395bf569e00143b2b5cf8c3313a71"), looks := false }, kinds := [], alts := [], laidByText := true, laidKinds := [.data], laidTests := true, laidLooks := .later }
def HeadRootsUptoCardSaid : Prop := Claim7.holds Tryd.pinned (.plain (OpenSpec.upto headRootsSpec)) headRootsUptoCard

/-- THE SECOND FORM's CARD OF 'pharoslaw13.HeadReads'. -/
def headReadsUptoCard : Claim7 := { stood := { row := headReadsUptoRow, standIns := [], harness := (true, "b29fda5af4b7eeadf4565e56eee63a1b489395bf569e00143b2b5cf8c3313a71"), looks := false }, kinds := [], alts := [], laidByText := true, laidKinds := [.data], laidTests := true, laidLooks := .later }
def HeadReadsUptoCardSaid : Prop := Claim7.holds Tryd.pinned (.plain (OpenSpec.upto headReadsSpec)) headReadsUptoCard

/-- THE SECOND FORM's CARD OF 'pharoslaw13.HeadBytes'. -/
def headBytesUptoCard : Claim7 := { stood := { row := headBytesUptoRow, standIns := [], harness := (true, "b29fda5af4b7eeadf4565e56eee63a1b489395bf569e00143b2b5cf8c3313a71"), looks := false }, kinds := [], alts := [], laidByText := true, laidKinds := [.data, .data, .pinned], laidTests := true, laidLooks := .later }
def HeadBytesUptoCardSaid : Prop := Claim7.holds Tryd.pinned (.plain (OpenSpec.upto headBytesSpec)) headBytesUptoCard

/-- THE SECOND FORM's CARD OF 'pharoslaw13.HeadBack'. -/
def headBackUptoCard : Claim7 := { stood := { row := headBackUptoRow, standIns := [], harness := (true, "b29fda5af4b7eeadf4565e56eee63a1b489395bf569e00143b2b5cf8c3313a71"), looks := false }, kinds := [], alts := [], laidByText := true, laidKinds := [.data, .data, .pinned], laidTests := true, laidLooks := .later }
def HeadBackUptoCardSaid : Prop := Claim7.holds Tryd.pinned (.plain (OpenSpec.upto headBackSpec)) headBackUptoCard

/-- THE SECOND FORM's CARD OF 'pharoslaw13.HeadLengths'. -/
def headLengthsUptoCard : Claim7 := { stood := { row := headLengthsUptoRow, standIns := [], harness := (true, "b29fda5af4b7eeadf4565e56eee63a1b489395bf569e00143b2b5cf8c3313a71"), looks := false }, kinds := [], alts := [], laidByText := true, laidKinds := [.data, .data, .pinned], laidTests := true, laidLooks := .later }
def HeadLengthsUptoCardSaid : Prop := Claim7.holds Tryd.pinned (.plain (OpenSpec.upto headLengthsSpec)) headLengthsUptoCard
end Rows
end Go.Proofs.YtfbopnebfdkhdaaDoor
