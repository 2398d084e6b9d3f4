/-
  DERIVED. GIVEN WITH THE SEED: THE CARDS: each row of YtmjblnhnadffmaaDoorRows.lean that lists a variable, with what it lists TIED to the program's text (the seventh form; the later family's looks); each row that meets fmt, with fmt's text TOLD by the authors' own Lean function (tested against real Go, not proved from fmt's source: count such statements apart). THE CARD IS WHAT COUNTS. Prove the row's statement (the work); the ties are given (YtmjblnhnadffmaaDoorTie.lean); close each card by the builder's one call (the guide's Derived/Test/ToyasCard.lean, 'card_holds'). Laid BY PROGRAM, IN A SANDBOX (cutbox-door.mjs). By AI agents, Wed Nov 11 2026. No macro, syntax, notation, axiom, sorry.
-/
import Derived.Test.YtmjblnhnadffmaaDoorRows
import GoSem.ClaimSeven
namespace Go.Proofs.YtmjblnhnadffmaaDoor
namespace Rows

/-- THE TIED CARD OF 'pharoslaw16.AcctSlots'. -/
def acctSlotsCard : Claim7 := { stood := { row := acctSlotsRow, standIns := [], harness := (true, "29cd55bbcc09b8a4b5140aa84cadc44218c7c33087cf8220fa6ca4e2a1009913"), looks := false }, kinds := [], alts := [], laidByText := true, laidKinds := [.data, .pinned], laidTests := true, laidLooks := .later }
def AcctSlotsCardSaid : Prop := Claim7.holds Tryd.pinned (.plain (OpenSpec.ofChange acctSlotsSpec)) acctSlotsCard

/-- THE TIED CARD OF 'pharoslaw16.AcctSizes'. -/
def acctSizesCard : Claim7 := { stood := { row := acctSizesRow, standIns := [], harness := (true, "29cd55bbcc09b8a4b5140aa84cadc44218c7c33087cf8220fa6ca4e2a1009913"), looks := false }, kinds := [], alts := [], laidByText := true, laidKinds := [.data, .pinned], laidTests := true, laidLooks := .later }
def AcctSizesCardSaid : Prop := Claim7.holds Tryd.pinned (.plain (OpenSpec.ofChange acctSizesSpec)) acctSizesCard

/-- THE TIED CARD OF 'pharoslaw16.AcctReceipts'. -/
def acctReceiptsCard : Claim7 := { stood := { row := acctReceiptsRow, standIns := [], harness := (true, "29cd55bbcc09b8a4b5140aa84cadc44218c7c33087cf8220fa6ca4e2a1009913"), looks := false }, kinds := [], alts := [], laidByText := true, laidKinds := [.data, .pinned], laidTests := true, laidLooks := .later }
def AcctReceiptsCardSaid : Prop := Claim7.holds Tryd.pinned (.plain (OpenSpec.ofChange acctReceiptsSpec)) acctReceiptsCard

/-- THE TIED CARD OF 'pharoslaw16.AcctBack'. -/
def acctBackCard : Claim7 := { stood := { row := acctBackRow, standIns := [], harness := (true, "29cd55bbcc09b8a4b5140aa84cadc44218c7c33087cf8220fa6ca4e2a1009913"), looks := false }, kinds := [], alts := [], laidByText := true, laidKinds := [.data, .pinned], laidTests := true, laidLooks := .later }
def AcctBackCardSaid : Prop := Claim7.holds Tryd.pinned (.plain (OpenSpec.ofChange acctBackSpec)) acctBackCard

/-- THE TIED CARD OF 'pharoslaw16.AcctBytes'. -/
def acctBytesCard : Claim7 := { stood := { row := acctBytesRow, standIns := [], harness := (true, "29cd55bbcc09b8a4b5140aa84cadc44218c7c33087cf8220fa6ca4e2a1009913"), looks := false }, kinds := [], alts := [], laidByText := true, laidKinds := [.data, .data, .data, .data, .pinned], laidTests := true, laidLooks := .later }
def AcctBytesCardSaid : Prop := Claim7.holds Tryd.pinned (.plain (OpenSpec.ofChange acctBytesSpec)) acctBytesCard

/-- THE SECOND FORM's CARD OF 'pharoslaw16.AcctSlots'. -/
def acctSlotsUptoCard : Claim7 := { stood := { row := acctSlotsUptoRow, standIns := [], harness := (true, "29cd55bbcc09b8a4b5140aa84cadc44218c7c33087cf8220fa6ca4e2a1009913"), looks := false }, kinds := [], alts := [], laidByText := true, laidKinds := [.data, .pinned], laidTests := true, laidLooks := .later }
def AcctSlotsUptoCardSaid : Prop := Claim7.holds Tryd.pinned (.plain (OpenSpec.upto acctSlotsSpec)) acctSlotsUptoCard

/-- THE SECOND FORM's CARD OF 'pharoslaw16.AcctSizes'. -/
def acctSizesUptoCard : Claim7 := { stood := { row := acctSizesUptoRow, standIns := [], harness := (true, "29cd55bbcc09b8a4b5140aa84cadc44218c7c33087cf8220fa6ca4e2a1009913"), looks := false }, kinds := [], alts := [], laidByText := true, laidKinds := [.data, .pinned], laidTests := true, laidLooks := .later }
def AcctSizesUptoCardSaid : Prop := Claim7.holds Tryd.pinned (.plain (OpenSpec.upto acctSizesSpec)) acctSizesUptoCard

/-- THE SECOND FORM's CARD OF 'pharoslaw16.AcctReceipts'. -/
def acctReceiptsUptoCard : Claim7 := { stood := { row := acctReceiptsUptoRow, standIns := [], harness := (true, "29cd55bbcc09b8a4b5140aa84cadc44218c7c33087cf8220fa6ca4e2a1009913"), looks := false }, kinds := [], alts := [], laidByText := true, laidKinds := [.data, .pinned], laidTests := true, laidLooks := .later }
def AcctReceiptsUptoCardSaid : Prop := Claim7.holds Tryd.pinned (.plain (OpenSpec.upto acctReceiptsSpec)) acctReceiptsUptoCard

/-- THE SECOND FORM's CARD OF 'pharoslaw16.AcctBack'. -/
def acctBackUptoCard : Claim7 := { stood := { row := acctBackUptoRow, standIns := [], harness := (true, "29cd55bbcc09b8a4b5140aa84cadc44218c7c33087cf8220fa6ca4e2a1009913"), looks := false }, kinds := [], alts := [], laidByText := true, laidKinds := [.data, .pinned], laidTests := true, laidLooks := .later }
def AcctBackUptoCardSaid : Prop := Claim7.holds Tryd.pinned (.plain (OpenSpec.upto acctBackSpec)) acctBackUptoCard

/-- THE SECOND FORM's CARD OF 'pharoslaw16.AcctBytes'. -/
def acctBytesUptoCard : Claim7 := { stood := { row := acctBytesUptoRow, standIns := [], harness := (true, "29cd55bbcc09b8a4b5140aa84cadc44218c7c33087cf8220fa6ca4e2a1009913"), looks := false }, kinds := [], alts := [], laidByText := true, laidKinds := [.data, .data, .data, .data, .pinned], laidTests := true, laidLooks := .later }
def AcctBytesUptoCardSaid : Prop := Claim7.holds Tryd.pinned (.plain (OpenSpec.upto acctBytesSpec)) acctBytesUptoCard
end Rows
end Go.Proofs.YtmjblnhnadffmaaDoor
