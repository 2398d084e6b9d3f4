/-
  DERIVED. GIVEN WITH THE SEED: THE CARDS: each row of YthicdhnjincflaaGreatDoorRows.lean that lists a variable, with what it lists TIED to the program's text (the seventh form; the later family's looks); each row that meets fmt, with fmt's text TOLD by the authors' own Lean function (tested against real Go, not proved from fmt's source: count such statements apart). THE CARD IS WHAT COUNTS. Prove the row's statement (the work); the ties are given (YthicdhnjincflaaGreatDoorTie.lean); close each card by the builder's one call (the guide's Derived/Test/ToyasCard.lean, 'card_holds'). Laid BY PROGRAM, IN A SANDBOX (cutbox-door.mjs). By AI agents, Wed Nov 11 2026. No macro, syntax, notation, axiom, sorry.
-/
import Derived.Test.YthicdhnjincflaaGreatDoorRows
import GoSem.ClaimSeven
namespace Go.Proofs.YthicdhnjincflaaGreatDoor
namespace Rows

/-- THE TIED CARD OF 'pharoslaw06.TrieRoots'. -/
def trieRootsCard : Claim7 := { stood := { row := trieRootsRow, standIns := [], harness := (true, "75e4c78438b187fddce3134b57586090aa5ceeef22de52d4c33af5439516ccec"), looks := false }, kinds := [], alts := [], laidByText := true, laidKinds := [.data, .data, .data, .data, .pinned], laidTests := true, laidLooks := .later }
def TrieRootsCardSaid : Prop := Claim7.holds Tryz.pinned (.plain (OpenSpec.ofChange trieRootsSpec)) trieRootsCard

/-- THE TIED CARD OF 'pharoslaw07.ProofHonest'. -/
def proofHonestCard : Claim7 := { stood := { row := proofHonestRow, standIns := [], harness := (true, "75e4c78438b187fddce3134b57586090aa5ceeef22de52d4c33af5439516ccec"), looks := false }, kinds := [], alts := [], laidByText := true, laidKinds := [.data, .data, .data, .data, .pinned], laidTests := true, laidLooks := .later }
def ProofHonestCardSaid : Prop := Claim7.holds Tryz.pinned (.plain (OpenSpec.ofChange proofHonestSpec)) proofHonestCard

/-- THE SECOND FORM's CARD OF 'pharoslaw06.TrieRoots'. -/
def trieRootsUptoCard : Claim7 := { stood := { row := trieRootsUptoRow, standIns := [], harness := (true, "75e4c78438b187fddce3134b57586090aa5ceeef22de52d4c33af5439516ccec"), looks := false }, kinds := [], alts := [], laidByText := true, laidKinds := [.data, .data, .data, .data, .pinned], laidTests := true, laidLooks := .later }
def TrieRootsUptoCardSaid : Prop := Claim7.holds Tryz.pinned (.plain (OpenSpec.upto trieRootsSpec)) trieRootsUptoCard

/-- THE SECOND FORM's CARD OF 'pharoslaw07.ProofHonest'. -/
def proofHonestUptoCard : Claim7 := { stood := { row := proofHonestUptoRow, standIns := [], harness := (true, "75e4c78438b187fddce3134b57586090aa5ceeef22de52d4c33af5439516ccec"), looks := false }, kinds := [], alts := [], laidByText := true, laidKinds := [.data, .data, .data, .data, .pinned], laidTests := true, laidLooks := .later }
def ProofHonestUptoCardSaid : Prop := Claim7.holds Tryz.pinned (.plain (OpenSpec.upto proofHonestSpec)) proofHonestUptoCard
end Rows
end Go.Proofs.YthicdhnjincflaaGreatDoor
