/-
  DERIVED. GIVEN WITH THE SEED: THE CARDS: each row of YtpfmdhcmhcoddaaGreatDoorRows.lean that lists a variable, with what it lists TIED to the program's text (the seventh form; the later family's looks); each row that meets fmt, with fmt's text TOLD by the authors' own Lean function (tested against real Go, not proved from fmt's source: count such statements apart). THE CARD IS WHAT COUNTS. Prove the row's statement (the work); the ties are given (YtpfmdhcmhcoddaaGreatDoorTie.lean); close each card by the builder's one call (the guide's Derived/Test/ToyasCard.lean, 'card_holds'). Laid BY PROGRAM, IN A SANDBOX (cutbox-door.mjs). By AI agents, Wed Nov 11 2026. No macro, syntax, notation, axiom, sorry.
-/
import Derived.Test.YtpfmdhcmhcoddaaGreatDoorRows
import GoSem.ClaimSeven
namespace Go.Proofs.YtpfmdhcmhcoddaaGreatDoor
namespace Rows

/-- THE TIED CARD OF 'pharoslaw22.ClientSteps'. -/
def clientStepsCard : Claim7 := { stood := { row := clientStepsRow, standIns := [], harness := (true, "90ed503fde7131c01a6ccb7d1835cb2ccdd42bbac5180dcda97751cc709d22a1"), looks := false }, kinds := [], alts := [], laidByText := true, laidKinds := [.data], laidTests := true, laidLooks := .later }
def ClientStepsCardSaid : Prop := Claim7.holds Tryz.pinned (.plain (OpenSpec.ofChange clientStepsSpec)) clientStepsCard

/-- THE TIED CARD OF 'pharoslaw22.ClientSound'. -/
def clientSoundCard : Claim7 := { stood := { row := clientSoundRow, standIns := [], harness := (true, "90ed503fde7131c01a6ccb7d1835cb2ccdd42bbac5180dcda97751cc709d22a1"), looks := false }, kinds := [], alts := [], laidByText := true, laidKinds := [.data, .data, .data, .data, .data, .pinned], laidTests := true, laidLooks := .later }
def ClientSoundCardSaid : Prop := Claim7.holds Tryz.pinned (.plain (OpenSpec.ofChange clientSoundSpec)) clientSoundCard

/-- THE TIED CARD OF 'pharoslaw22.ClientNone'. -/
def clientNoneCard : Claim7 := { stood := { row := clientNoneRow, standIns := [], harness := (true, "90ed503fde7131c01a6ccb7d1835cb2ccdd42bbac5180dcda97751cc709d22a1"), looks := false }, kinds := [], alts := [], laidByText := true, laidKinds := [.data, .data, .data, .data, .data, .pinned], laidTests := true, laidLooks := .later }
def ClientNoneCardSaid : Prop := Claim7.holds Tryz.pinned (.plain (OpenSpec.ofChange clientNoneSpec)) clientNoneCard

/-- THE TIED CARD OF 'pharoslaw22.ClientIdle'. -/
def clientIdleCard : Claim7 := { stood := { row := clientIdleRow, standIns := [], harness := (true, "90ed503fde7131c01a6ccb7d1835cb2ccdd42bbac5180dcda97751cc709d22a1"), looks := false }, kinds := [], alts := [], laidByText := true, laidKinds := [.data, .data, .data, .data, .data, .pinned], laidTests := true, laidLooks := .later }
def ClientIdleCardSaid : Prop := Claim7.holds Tryz.pinned (.plain (OpenSpec.ofChange clientIdleSpec)) clientIdleCard

/-- THE SECOND FORM's CARD OF 'pharoslaw22.ClientSteps'. -/
def clientStepsUptoCard : Claim7 := { stood := { row := clientStepsUptoRow, standIns := [], harness := (true, "90ed503fde7131c01a6ccb7d1835cb2ccdd42bbac5180dcda97751cc709d22a1"), looks := false }, kinds := [], alts := [], laidByText := true, laidKinds := [.data], laidTests := true, laidLooks := .later }
def ClientStepsUptoCardSaid : Prop := Claim7.holds Tryz.pinned (.plain (OpenSpec.upto clientStepsSpec)) clientStepsUptoCard

/-- THE SECOND FORM's CARD OF 'pharoslaw22.ClientSound'. -/
def clientSoundUptoCard : Claim7 := { stood := { row := clientSoundUptoRow, standIns := [], harness := (true, "90ed503fde7131c01a6ccb7d1835cb2ccdd42bbac5180dcda97751cc709d22a1"), looks := false }, kinds := [], alts := [], laidByText := true, laidKinds := [.data, .data, .data, .data, .data, .pinned], laidTests := true, laidLooks := .later }
def ClientSoundUptoCardSaid : Prop := Claim7.holds Tryz.pinned (.plain (OpenSpec.upto clientSoundSpec)) clientSoundUptoCard

/-- THE SECOND FORM's CARD OF 'pharoslaw22.ClientNone'. -/
def clientNoneUptoCard : Claim7 := { stood := { row := clientNoneUptoRow, standIns := [], harness := (true, "90ed503fde7131c01a6ccb7d1835cb2ccdd42bbac5180dcda97751cc709d22a1"), looks := false }, kinds := [], alts := [], laidByText := true, laidKinds := [.data, .data, .data, .data, .data, .pinned], laidTests := true, laidLooks := .later }
def ClientNoneUptoCardSaid : Prop := Claim7.holds Tryz.pinned (.plain (OpenSpec.upto clientNoneSpec)) clientNoneUptoCard

/-- THE SECOND FORM's CARD OF 'pharoslaw22.ClientIdle'. -/
def clientIdleUptoCard : Claim7 := { stood := { row := clientIdleUptoRow, standIns := [], harness := (true, "90ed503fde7131c01a6ccb7d1835cb2ccdd42bbac5180dcda97751cc709d22a1"), looks := false }, kinds := [], alts := [], laidByText := true, laidKinds := [.data, .data, .data, .data, .data, .pinned], laidTests := true, laidLooks := .later }
def ClientIdleUptoCardSaid : Prop := Claim7.holds Tryz.pinned (.plain (OpenSpec.upto clientIdleSpec)) clientIdleUptoCard
end Rows
end Go.Proofs.YtpfmdhcmhcoddaaGreatDoor
