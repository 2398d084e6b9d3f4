/-
  DERIVED. GIVEN WITH THE SEED: THE CARDS: each row of YtjccllfgendpdaaDoorRows.lean that lists a variable, with what it lists TIED to the program's text (the seventh form; the later family's looks); each row that meets fmt, with fmt's text TOLD by the authors' own Lean function (tested against real Go, not proved from fmt's source: count such statements apart). THE CARD IS WHAT COUNTS. Prove the row's statement (the work); the ties are given (YtjccllfgendpdaaDoorTie.lean); close each card by the builder's one call (the guide's Derived/Test/ToyasCard.lean, 'card_holds'). Laid BY PROGRAM, IN A SANDBOX (cutbox-door.mjs). By AI agents, Wed Nov 11 2026. No macro, syntax, notation, axiom, sorry.
-/
import Derived.Test.YtjccllfgendpdaaDoorRows
import GoSem.ClaimSeven
namespace Go.Proofs.YtjccllfgendpdaaDoor
namespace Rows

/-- THE TIED CARD OF 'pharoslaw05.NibsForms'. -/
def nibsFormsCard : Claim7 := { stood := { row := nibsFormsRow, standIns := [], harness := (true, "9d059d8e3be5d1174aef5285d8f228e1078408c611f410c42655072b7ca9be8c"), looks := false }, kinds := [], alts := [], laidByText := true, laidKinds := [.data, .pinned], laidTests := true, laidLooks := .later }
def NibsFormsCardSaid : Prop := Claim7.holds Tryd.pinned (.plain (OpenSpec.ofChange nibsFormsSpec)) nibsFormsCard

/-- THE TIED CARD OF 'pharoslaw05.NibsJoins'. -/
def nibsJoinsCard : Claim7 := { stood := { row := nibsJoinsRow, standIns := [], harness := (true, "9d059d8e3be5d1174aef5285d8f228e1078408c611f410c42655072b7ca9be8c"), looks := false }, kinds := [], alts := [], laidByText := true, laidKinds := [.data, .pinned], laidTests := true, laidLooks := .later }
def NibsJoinsCardSaid : Prop := Claim7.holds Tryd.pinned (.plain (OpenSpec.ofChange nibsJoinsSpec)) nibsJoinsCard

/-- THE TIED CARD OF 'pharoslaw05.NibsReads'. -/
def nibsReadsCard : Claim7 := { stood := { row := nibsReadsRow, standIns := [], harness := (true, "9d059d8e3be5d1174aef5285d8f228e1078408c611f410c42655072b7ca9be8c"), looks := false }, kinds := [], alts := [], laidByText := true, laidKinds := [.data, .pinned], laidTests := true, laidLooks := .later }
def NibsReadsCardSaid : Prop := Claim7.holds Tryd.pinned (.plain (OpenSpec.ofChange nibsReadsSpec)) nibsReadsCard

/-- THE TIED CARD OF 'pharoslaw05.NibsBack'. -/
def nibsBackCard : Claim7 := { stood := { row := nibsBackRow, standIns := [], harness := (true, "9d059d8e3be5d1174aef5285d8f228e1078408c611f410c42655072b7ca9be8c"), looks := false }, kinds := [], alts := [], laidByText := true, laidKinds := [.data, .pinned], laidTests := true, laidLooks := .later }
def NibsBackCardSaid : Prop := Claim7.holds Tryd.pinned (.plain (OpenSpec.ofChange nibsBackSpec)) nibsBackCard

/-- THE TIED CARD OF 'pharoslaw04.RlpDecodes'. -/
def rlpDecodesCard : Claim7 := { stood := { row := rlpDecodesRow, standIns := [], harness := (true, "9d059d8e3be5d1174aef5285d8f228e1078408c611f410c42655072b7ca9be8c"), looks := false }, kinds := [], alts := [], laidByText := true, laidKinds := [.data, .pinned], laidTests := true, laidLooks := .later }
def RlpDecodesCardSaid : Prop := Claim7.holds Tryd.pinned (.plain (OpenSpec.ofChange rlpDecodesSpec)) rlpDecodesCard

/-- THE TIED CARD OF 'pharoslaw04.RlpNumbers'. -/
def rlpNumbersCard : Claim7 := { stood := { row := rlpNumbersRow, standIns := [], harness := (true, "9d059d8e3be5d1174aef5285d8f228e1078408c611f410c42655072b7ca9be8c"), looks := false }, kinds := [], alts := [], laidByText := true, laidKinds := [.data, .pinned], laidTests := true, laidLooks := .later }
def RlpNumbersCardSaid : Prop := Claim7.holds Tryd.pinned (.plain (OpenSpec.ofChange rlpNumbersSpec)) rlpNumbersCard

/-- THE TIED CARD OF 'pharoslaw04.RlpBack'. -/
def rlpBackCard : Claim7 := { stood := { row := rlpBackRow, standIns := [], harness := (true, "9d059d8e3be5d1174aef5285d8f228e1078408c611f410c42655072b7ca9be8c"), looks := false }, kinds := [], alts := [], laidByText := true, laidKinds := [.data, .pinned], laidTests := true, laidLooks := .later }
def RlpBackCardSaid : Prop := Claim7.holds Tryd.pinned (.plain (OpenSpec.ofChange rlpBackSpec)) rlpBackCard

/-- THE TIED CARD OF 'pharoslaw04.RlpApart'. -/
def rlpApartCard : Claim7 := { stood := { row := rlpApartRow, standIns := [], harness := (true, "9d059d8e3be5d1174aef5285d8f228e1078408c611f410c42655072b7ca9be8c"), looks := false }, kinds := [], alts := [], laidByText := true, laidKinds := [.data, .pinned], laidTests := true, laidLooks := .later }
def RlpApartCardSaid : Prop := Claim7.holds Tryd.pinned (.plain (OpenSpec.ofChange rlpApartSpec)) rlpApartCard

/-- THE TIED CARD OF 'pharoslaw04.RlpShort'. -/
def rlpShortCard : Claim7 := { stood := { row := rlpShortRow, standIns := [], harness := (true, "9d059d8e3be5d1174aef5285d8f228e1078408c611f410c42655072b7ca9be8c"), looks := false }, kinds := [], alts := [], laidByText := true, laidKinds := [.data, .pinned], laidTests := true, laidLooks := .later }
def RlpShortCardSaid : Prop := Claim7.holds Tryd.pinned (.plain (OpenSpec.ofChange rlpShortSpec)) rlpShortCard

/-- THE TIED CARD OF 'pharoslaw04.RlpEncodes'. -/
def rlpEncodesCard : Claim7 := { stood := { row := rlpEncodesRow, standIns := [], harness := (true, "9d059d8e3be5d1174aef5285d8f228e1078408c611f410c42655072b7ca9be8c"), looks := false }, kinds := [], alts := [], laidByText := true, laidKinds := [.data, .pinned], laidTests := true, laidLooks := .later }
def RlpEncodesCardSaid : Prop := Claim7.holds Tryd.pinned (.plain (OpenSpec.ofChange rlpEncodesSpec)) rlpEncodesCard

/-- THE TIED CARD OF 'pharoslaw04.RlpWraps'. -/
def rlpWrapsCard : Claim7 := { stood := { row := rlpWrapsRow, standIns := [], harness := (true, "9d059d8e3be5d1174aef5285d8f228e1078408c611f410c42655072b7ca9be8c"), looks := false }, kinds := [], alts := [], laidByText := true, laidKinds := [.data, .pinned], laidTests := true, laidLooks := .later }
def RlpWrapsCardSaid : Prop := Claim7.holds Tryd.pinned (.plain (OpenSpec.ofChange rlpWrapsSpec)) rlpWrapsCard

/-- THE SECOND FORM's CARD OF 'pharoslaw05.NibsForms'. -/
def nibsFormsUptoCard : Claim7 := { stood := { row := nibsFormsUptoRow, standIns := [], harness := (true, "9d059d8e3be5d1174aef5285d8f228e1078408c611f410c42655072b7ca9be8c"), looks := false }, kinds := [], alts := [], laidByText := true, laidKinds := [.data, .pinned], laidTests := true, laidLooks := .later }
def NibsFormsUptoCardSaid : Prop := Claim7.holds Tryd.pinned (.plain (OpenSpec.upto nibsFormsSpec)) nibsFormsUptoCard

/-- THE SECOND FORM's CARD OF 'pharoslaw05.NibsJoins'. -/
def nibsJoinsUptoCard : Claim7 := { stood := { row := nibsJoinsUptoRow, standIns := [], harness := (true, "9d059d8e3be5d1174aef5285d8f228e1078408c611f410c42655072b7ca9be8c"), looks := false }, kinds := [], alts := [], laidByText := true, laidKinds := [.data, .pinned], laidTests := true, laidLooks := .later }
def NibsJoinsUptoCardSaid : Prop := Claim7.holds Tryd.pinned (.plain (OpenSpec.upto nibsJoinsSpec)) nibsJoinsUptoCard

/-- THE SECOND FORM's CARD OF 'pharoslaw05.NibsReads'. -/
def nibsReadsUptoCard : Claim7 := { stood := { row := nibsReadsUptoRow, standIns := [], harness := (true, "9d059d8e3be5d1174aef5285d8f228e1078408c611f410c42655072b7ca9be8c"), looks := false }, kinds := [], alts := [], laidByText := true, laidKinds := [.data, .pinned], laidTests := true, laidLooks := .later }
def NibsReadsUptoCardSaid : Prop := Claim7.holds Tryd.pinned (.plain (OpenSpec.upto nibsReadsSpec)) nibsReadsUptoCard

/-- THE SECOND FORM's CARD OF 'pharoslaw05.NibsBack'. -/
def nibsBackUptoCard : Claim7 := { stood := { row := nibsBackUptoRow, standIns := [], harness := (true, "9d059d8e3be5d1174aef5285d8f228e1078408c611f410c42655072b7ca9be8c"), looks := false }, kinds := [], alts := [], laidByText := true, laidKinds := [.data, .pinned], laidTests := true, laidLooks := .later }
def NibsBackUptoCardSaid : Prop := Claim7.holds Tryd.pinned (.plain (OpenSpec.upto nibsBackSpec)) nibsBackUptoCard

/-- THE SECOND FORM's CARD OF 'pharoslaw04.RlpDecodes'. -/
def rlpDecodesUptoCard : Claim7 := { stood := { row := rlpDecodesUptoRow, standIns := [], harness := (true, "9d059d8e3be5d1174aef5285d8f228e1078408c611f410c42655072b7ca9be8c"), looks := false }, kinds := [], alts := [], laidByText := true, laidKinds := [.data, .pinned], laidTests := true, laidLooks := .later }
def RlpDecodesUptoCardSaid : Prop := Claim7.holds Tryd.pinned (.plain (OpenSpec.upto rlpDecodesSpec)) rlpDecodesUptoCard

/-- THE SECOND FORM's CARD OF 'pharoslaw04.RlpNumbers'. -/
def rlpNumbersUptoCard : Claim7 := { stood := { row := rlpNumbersUptoRow, standIns := [], harness := (true, "9d059d8e3be5d1174aef5285d8f228e1078408c611f410c42655072b7ca9be8c"), looks := false }, kinds := [], alts := [], laidByText := true, laidKinds := [.data, .pinned], laidTests := true, laidLooks := .later }
def RlpNumbersUptoCardSaid : Prop := Claim7.holds Tryd.pinned (.plain (OpenSpec.upto rlpNumbersSpec)) rlpNumbersUptoCard

/-- THE SECOND FORM's CARD OF 'pharoslaw04.RlpBack'. -/
def rlpBackUptoCard : Claim7 := { stood := { row := rlpBackUptoRow, standIns := [], harness := (true, "9d059d8e3be5d1174aef5285d8f228e1078408c611f410c42655072b7ca9be8c"), looks := false }, kinds := [], alts := [], laidByText := true, laidKinds := [.data, .pinned], laidTests := true, laidLooks := .later }
def RlpBackUptoCardSaid : Prop := Claim7.holds Tryd.pinned (.plain (OpenSpec.upto rlpBackSpec)) rlpBackUptoCard

/-- THE SECOND FORM's CARD OF 'pharoslaw04.RlpApart'. -/
def rlpApartUptoCard : Claim7 := { stood := { row := rlpApartUptoRow, standIns := [], harness := (true, "9d059d8e3be5d1174aef5285d8f228e1078408c611f410c42655072b7ca9be8c"), looks := false }, kinds := [], alts := [], laidByText := true, laidKinds := [.data, .pinned], laidTests := true, laidLooks := .later }
def RlpApartUptoCardSaid : Prop := Claim7.holds Tryd.pinned (.plain (OpenSpec.upto rlpApartSpec)) rlpApartUptoCard

/-- THE SECOND FORM's CARD OF 'pharoslaw04.RlpShort'. -/
def rlpShortUptoCard : Claim7 := { stood := { row := rlpShortUptoRow, standIns := [], harness := (true, "9d059d8e3be5d1174aef5285d8f228e1078408c611f410c42655072b7ca9be8c"), looks := false }, kinds := [], alts := [], laidByText := true, laidKinds := [.data, .pinned], laidTests := true, laidLooks := .later }
def RlpShortUptoCardSaid : Prop := Claim7.holds Tryd.pinned (.plain (OpenSpec.upto rlpShortSpec)) rlpShortUptoCard

/-- THE SECOND FORM's CARD OF 'pharoslaw04.RlpEncodes'. -/
def rlpEncodesUptoCard : Claim7 := { stood := { row := rlpEncodesUptoRow, standIns := [], harness := (true, "9d059d8e3be5d1174aef5285d8f228e1078408c611f410c42655072b7ca9be8c"), looks := false }, kinds := [], alts := [], laidByText := true, laidKinds := [.data, .pinned], laidTests := true, laidLooks := .later }
def RlpEncodesUptoCardSaid : Prop := Claim7.holds Tryd.pinned (.plain (OpenSpec.upto rlpEncodesSpec)) rlpEncodesUptoCard

/-- THE SECOND FORM's CARD OF 'pharoslaw04.RlpWraps'. -/
def rlpWrapsUptoCard : Claim7 := { stood := { row := rlpWrapsUptoRow, standIns := [], harness := (true, "9d059d8e3be5d1174aef5285d8f228e1078408c611f410c42655072b7ca9be8c"), looks := false }, kinds := [], alts := [], laidByText := true, laidKinds := [.data, .pinned], laidTests := true, laidLooks := .later }
def RlpWrapsUptoCardSaid : Prop := Claim7.holds Tryd.pinned (.plain (OpenSpec.upto rlpWrapsSpec)) rlpWrapsUptoCard
end Rows
end Go.Proofs.YtjccllfgendpdaaDoor
