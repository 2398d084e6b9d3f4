/-
  DERIVED. GIVEN WITH THE SEED: THE CARDS: each row of YthicdhnjincflaaDoorRows.lean that lists a variable, with what it lists TIED to the program's text (the seventh form; the later family's looks); each row that meets fmt, with fmt's text TOLD by the authors' own Lean function (tested against real Go, not proved from fmt's source: count such statements apart). THE CARD IS WHAT COUNTS. Prove the row's statement (the work); the ties are given (YthicdhnjincflaaDoorTie.lean); close each card by the builder's one call (the guide's Derived/Test/ToyasCard.lean, 'card_holds'). Laid BY PROGRAM, IN A SANDBOX (cutbox-door.mjs). By AI agents, Wed Nov 11 2026. No macro, syntax, notation, axiom, sorry.
-/
import Derived.Test.YthicdhnjincflaaDoorRows
import GoSem.ClaimSeven
namespace Go.Proofs.YthicdhnjincflaaDoor
namespace Rows

/-- THE TIED CARD OF 'pharoslaw07.ProofSizes'. -/
def proofSizesCard : Claim7 := { stood := { row := proofSizesRow, standIns := [], harness := (true, "01747917ee5cfb89124f51aefb67635d47096cc87455f8343536a8a8933a2874"), looks := false }, kinds := [], alts := [], laidByText := true, laidKinds := [.data, .data, .data], laidTests := true, laidLooks := .later }
def ProofSizesCardSaid : Prop := Claim7.holds Tryd.pinned (.plain (OpenSpec.ofChange proofSizesSpec)) proofSizesCard

/-- THE TIED CARD OF 'pharoslaw07.ProofSound'. -/
def proofSoundCard : Claim7 := { stood := { row := proofSoundRow, standIns := [], harness := (true, "01747917ee5cfb89124f51aefb67635d47096cc87455f8343536a8a8933a2874"), looks := false }, kinds := [], alts := [], laidByText := true, laidKinds := [.data, .data, .data], laidTests := true, laidLooks := .later }
def ProofSoundCardSaid : Prop := Claim7.holds Tryd.pinned (.plain (OpenSpec.ofChange proofSoundSpec)) proofSoundCard

/-- THE TIED CARD OF 'pharoslaw07.ProofOnly'. -/
def proofOnlyCard : Claim7 := { stood := { row := proofOnlyRow, standIns := [], harness := (true, "01747917ee5cfb89124f51aefb67635d47096cc87455f8343536a8a8933a2874"), looks := false }, kinds := [], alts := [], laidByText := true, laidKinds := [.data, .data, .data], laidTests := true, laidLooks := .later }
def ProofOnlyCardSaid : Prop := Claim7.holds Tryd.pinned (.plain (OpenSpec.ofChange proofOnlySpec)) proofOnlyCard

/-- THE TIED CARD OF 'pharoslaw07.ProofShort'. -/
def proofShortCard : Claim7 := { stood := { row := proofShortRow, standIns := [], harness := (true, "01747917ee5cfb89124f51aefb67635d47096cc87455f8343536a8a8933a2874"), looks := false }, kinds := [], alts := [], laidByText := true, laidKinds := [.data, .data, .data], laidTests := true, laidLooks := .later }
def ProofShortCardSaid : Prop := Claim7.holds Tryd.pinned (.plain (OpenSpec.ofChange proofShortSpec)) proofShortCard

/-- THE TIED CARD OF 'pharoslaw07.ProofLeads'. -/
def proofLeadsCard : Claim7 := { stood := { row := proofLeadsRow, standIns := [], harness := (true, "01747917ee5cfb89124f51aefb67635d47096cc87455f8343536a8a8933a2874"), looks := false }, kinds := [], alts := [], laidByText := true, laidKinds := [.data, .data, .data], laidTests := true, laidLooks := .later }
def ProofLeadsCardSaid : Prop := Claim7.holds Tryd.pinned (.plain (OpenSpec.ofChange proofLeadsSpec)) proofLeadsCard

/-- THE TIED CARD OF 'pharoslaw06.TrieRight'. -/
def trieRightCard : Claim7 := { stood := { row := trieRightRow, standIns := [], harness := (true, "01747917ee5cfb89124f51aefb67635d47096cc87455f8343536a8a8933a2874"), looks := false }, kinds := [], alts := [], laidByText := true, laidKinds := [.data, .data, .data, .data, .pinned], laidTests := true, laidLooks := .later }
def TrieRightCardSaid : Prop := Claim7.holds Tryd.pinned (.plain (OpenSpec.ofChange trieRightSpec)) trieRightCard

/-- THE TIED CARD OF 'pharoslaw06.TrieOrder'. -/
def trieOrderCard : Claim7 := { stood := { row := trieOrderRow, standIns := [], harness := (true, "01747917ee5cfb89124f51aefb67635d47096cc87455f8343536a8a8933a2874"), looks := false }, kinds := [], alts := [], laidByText := true, laidKinds := [.data, .data, .data, .data, .pinned], laidTests := true, laidLooks := .later }
def TrieOrderCardSaid : Prop := Claim7.holds Tryd.pinned (.plain (OpenSpec.ofChange trieOrderSpec)) trieOrderCard

/-- THE TIED CARD OF 'pharoslaw06.TrieApart'. -/
def trieApartCard : Claim7 := { stood := { row := trieApartRow, standIns := [], harness := (true, "01747917ee5cfb89124f51aefb67635d47096cc87455f8343536a8a8933a2874"), looks := false }, kinds := [], alts := [], laidByText := true, laidKinds := [.data, .data, .data, .data, .pinned], laidTests := true, laidLooks := .later }
def TrieApartCardSaid : Prop := Claim7.holds Tryd.pinned (.plain (OpenSpec.ofChange trieApartSpec)) trieApartCard

/-- THE TIED CARD OF 'pharoslaw06.TrieRefers'. -/
def trieRefersCard : Claim7 := { stood := { row := trieRefersRow, standIns := [], harness := (true, "01747917ee5cfb89124f51aefb67635d47096cc87455f8343536a8a8933a2874"), looks := false }, kinds := [], alts := [], laidByText := true, laidKinds := [.data, .data, .data, .data, .pinned], laidTests := true, laidLooks := .later }
def TrieRefersCardSaid : Prop := Claim7.holds Tryd.pinned (.plain (OpenSpec.ofChange trieRefersSpec)) trieRefersCard

/-- THE TIED CARD OF 'pharoslaw06.TrieTops'. -/
def trieTopsCard : Claim7 := { stood := { row := trieTopsRow, standIns := [], harness := (true, "01747917ee5cfb89124f51aefb67635d47096cc87455f8343536a8a8933a2874"), looks := false }, kinds := [], alts := [], laidByText := true, laidKinds := [.data, .data, .data, .data, .pinned], laidTests := true, laidLooks := .later }
def TrieTopsCardSaid : Prop := Claim7.holds Tryd.pinned (.plain (OpenSpec.ofChange trieTopsSpec)) trieTopsCard

/-- THE SECOND FORM's CARD OF 'pharoslaw07.ProofSizes'. -/
def proofSizesUptoCard : Claim7 := { stood := { row := proofSizesUptoRow, standIns := [], harness := (true, "01747917ee5cfb89124f51aefb67635d47096cc87455f8343536a8a8933a2874"), looks := false }, kinds := [], alts := [], laidByText := true, laidKinds := [.data, .data, .data], laidTests := true, laidLooks := .later }
def ProofSizesUptoCardSaid : Prop := Claim7.holds Tryd.pinned (.plain (OpenSpec.upto proofSizesSpec)) proofSizesUptoCard

/-- THE SECOND FORM's CARD OF 'pharoslaw07.ProofSound'. -/
def proofSoundUptoCard : Claim7 := { stood := { row := proofSoundUptoRow, standIns := [], harness := (true, "01747917ee5cfb89124f51aefb67635d47096cc87455f8343536a8a8933a2874"), looks := false }, kinds := [], alts := [], laidByText := true, laidKinds := [.data, .data, .data], laidTests := true, laidLooks := .later }
def ProofSoundUptoCardSaid : Prop := Claim7.holds Tryd.pinned (.plain (OpenSpec.upto proofSoundSpec)) proofSoundUptoCard

/-- THE SECOND FORM's CARD OF 'pharoslaw07.ProofOnly'. -/
def proofOnlyUptoCard : Claim7 := { stood := { row := proofOnlyUptoRow, standIns := [], harness := (true, "01747917ee5cfb89124f51aefb67635d47096cc87455f8343536a8a8933a2874"), looks := false }, kinds := [], alts := [], laidByText := true, laidKinds := [.data, .data, .data], laidTests := true, laidLooks := .later }
def ProofOnlyUptoCardSaid : Prop := Claim7.holds Tryd.pinned (.plain (OpenSpec.upto proofOnlySpec)) proofOnlyUptoCard

/-- THE SECOND FORM's CARD OF 'pharoslaw07.ProofShort'. -/
def proofShortUptoCard : Claim7 := { stood := { row := proofShortUptoRow, standIns := [], harness := (true, "01747917ee5cfb89124f51aefb67635d47096cc87455f8343536a8a8933a2874"), looks := false }, kinds := [], alts := [], laidByText := true, laidKinds := [.data, .data, .data], laidTests := true, laidLooks := .later }
def ProofShortUptoCardSaid : Prop := Claim7.holds Tryd.pinned (.plain (OpenSpec.upto proofShortSpec)) proofShortUptoCard

/-- THE SECOND FORM's CARD OF 'pharoslaw07.ProofLeads'. -/
def proofLeadsUptoCard : Claim7 := { stood := { row := proofLeadsUptoRow, standIns := [], harness := (true, "01747917ee5cfb89124f51aefb67635d47096cc87455f8343536a8a8933a2874"), looks := false }, kinds := [], alts := [], laidByText := true, laidKinds := [.data, .data, .data], laidTests := true, laidLooks := .later }
def ProofLeadsUptoCardSaid : Prop := Claim7.holds Tryd.pinned (.plain (OpenSpec.upto proofLeadsSpec)) proofLeadsUptoCard

/-- THE SECOND FORM's CARD OF 'pharoslaw06.TrieRight'. -/
def trieRightUptoCard : Claim7 := { stood := { row := trieRightUptoRow, standIns := [], harness := (true, "01747917ee5cfb89124f51aefb67635d47096cc87455f8343536a8a8933a2874"), looks := false }, kinds := [], alts := [], laidByText := true, laidKinds := [.data, .data, .data, .data, .pinned], laidTests := true, laidLooks := .later }
def TrieRightUptoCardSaid : Prop := Claim7.holds Tryd.pinned (.plain (OpenSpec.upto trieRightSpec)) trieRightUptoCard

/-- THE SECOND FORM's CARD OF 'pharoslaw06.TrieOrder'. -/
def trieOrderUptoCard : Claim7 := { stood := { row := trieOrderUptoRow, standIns := [], harness := (true, "01747917ee5cfb89124f51aefb67635d47096cc87455f8343536a8a8933a2874"), looks := false }, kinds := [], alts := [], laidByText := true, laidKinds := [.data, .data, .data, .data, .pinned], laidTests := true, laidLooks := .later }
def TrieOrderUptoCardSaid : Prop := Claim7.holds Tryd.pinned (.plain (OpenSpec.upto trieOrderSpec)) trieOrderUptoCard

/-- THE SECOND FORM's CARD OF 'pharoslaw06.TrieApart'. -/
def trieApartUptoCard : Claim7 := { stood := { row := trieApartUptoRow, standIns := [], harness := (true, "01747917ee5cfb89124f51aefb67635d47096cc87455f8343536a8a8933a2874"), looks := false }, kinds := [], alts := [], laidByText := true, laidKinds := [.data, .data, .data, .data, .pinned], laidTests := true, laidLooks := .later }
def TrieApartUptoCardSaid : Prop := Claim7.holds Tryd.pinned (.plain (OpenSpec.upto trieApartSpec)) trieApartUptoCard

/-- THE SECOND FORM's CARD OF 'pharoslaw06.TrieRefers'. -/
def trieRefersUptoCard : Claim7 := { stood := { row := trieRefersUptoRow, standIns := [], harness := (true, "01747917ee5cfb89124f51aefb67635d47096cc87455f8343536a8a8933a2874"), looks := false }, kinds := [], alts := [], laidByText := true, laidKinds := [.data, .data, .data, .data, .pinned], laidTests := true, laidLooks := .later }
def TrieRefersUptoCardSaid : Prop := Claim7.holds Tryd.pinned (.plain (OpenSpec.upto trieRefersSpec)) trieRefersUptoCard

/-- THE SECOND FORM's CARD OF 'pharoslaw06.TrieTops'. -/
def trieTopsUptoCard : Claim7 := { stood := { row := trieTopsUptoRow, standIns := [], harness := (true, "01747917ee5cfb89124f51aefb67635d47096cc87455f8343536a8a8933a2874"), looks := false }, kinds := [], alts := [], laidByText := true, laidKinds := [.data, .data, .data, .data, .pinned], laidTests := true, laidLooks := .later }
def TrieTopsUptoCardSaid : Prop := Claim7.holds Tryd.pinned (.plain (OpenSpec.upto trieTopsSpec)) trieTopsUptoCard
end Rows
end Go.Proofs.YthicdhnjincflaaDoor
