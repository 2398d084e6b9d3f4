/-
  NARROWER THAN 'FOR EVERY INPUT', by the rows' own cells (each row's printed sentence says how): ProofSizes: laid · ProofSound: laid · ProofOnly: laid · ProofShort: laid · ProofLeads: laid · TrieRight: laid · TrieOrder: laid · TrieApart: laid · TrieRefers: laid · TrieTops: laid.
  DERIVED. THE GIVEN ROWS OF THIS SEAT. 10 by the template 'for every input the law returns true; each argument reads behind the call as it read before'; 0 by the template 'total and deterministic' (their statements: YthicdhnjincflaaDoorTotals.lean).
  GIVEN WITH THE SEED: the statements are not yours to turn. If you find one false, say at which input.
  Laid BY PROGRAM, IN A SANDBOX (cutbox-rows.mjs): the forced cells as the released guide's own fill.sh prints them over the translation 8b405fbad9a738e7… (all of the seat's roots in one cut). By AI agents, Wed Nov 11 2026. No macro, syntax, notation, axiom, sorry.
-/
import Derived.Test.YthicdhnjincflaaDoorChecked
import GoSem.PinnedTables
import GoSem.Claim
import GoSem.ClaimJoined
import GoSem.ClaimMapViews
import Derived.JoinedTies
import Derived.KernelRfl
namespace Go.Proofs.YthicdhnjincflaaDoor
/- THE CELL 'sum', in the pinned program and in every row, IS THE sha256 OF THE DUMP (.gsa) THAT YthicdhnjincflaaDoorProg.lean LOADS. Nothing in Lean hashes anything: it is a label: what it is worth is what the hold of that sum in a sandbox is worth. -/
noncomputable def Tryd.pinned : Pinned := { name := "ythicdhnjincflaadoor", sum := "8b405fbad9a738e707b88e365c0937b799b5700e3cb93fb883b83093de3abfc6", checked := Tryd.checked }
namespace Rows
def none {H : Type} : Left H := { results := [], args := [] }

/- WHAT THE LISTED PACKAGE-LEVEL VARIABLES READ AS WHEN THE CALL BEGINS. Each datum BY PROGRAM (the guide's laid-datum.mjs) off the statement by which the dump's own 'gosem.cut.vars' lays the variable. In a bare row this is a premise. The card (YthicdhnjincflaaDoorCards.lean) ties it to the program's text. -/
def laid_pharos_keccak_constants {H : Type} : DataW H := .agg [.lit (.int .u64 1), .lit (.int .u64 32898), .lit (.int .u64 9223372036854808714), .lit (.int .u64 9223372039002292224), .lit (.int .u64 32907), .lit (.int .u64 2147483649), .lit (.int .u64 9223372039002292353), .lit (.int .u64 9223372036854808585), .lit (.int .u64 138), .lit (.int .u64 136), .lit (.int .u64 2147516425), .lit (.int .u64 2147483658), .lit (.int .u64 2147516555), .lit (.int .u64 9223372036854775947), .lit (.int .u64 9223372036854808713), .lit (.int .u64 9223372036854808579), .lit (.int .u64 9223372036854808578), .lit (.int .u64 9223372036854775936), .lit (.int .u64 32778), .lit (.int .u64 9223372039002259466), .lit (.int .u64 9223372039002292353), .lit (.int .u64 9223372036854808704), .lit (.int .u64 2147483649), .lit (.int .u64 9223372039002292232)]
def laid_pharos_keccak_turns {H : Type} : DataW H := .agg [.lit (.int .i64 1), .lit (.int .i64 3), .lit (.int .i64 6), .lit (.int .i64 10), .lit (.int .i64 15), .lit (.int .i64 21), .lit (.int .i64 28), .lit (.int .i64 36), .lit (.int .i64 45), .lit (.int .i64 55), .lit (.int .i64 2), .lit (.int .i64 14), .lit (.int .i64 27), .lit (.int .i64 41), .lit (.int .i64 56), .lit (.int .i64 8), .lit (.int .i64 25), .lit (.int .i64 43), .lit (.int .i64 62), .lit (.int .i64 18), .lit (.int .i64 39), .lit (.int .i64 61), .lit (.int .i64 20), .lit (.int .i64 44)]
def laid_pharos_keccak_places {H : Type} : DataW H := .agg [.lit (.int .i64 10), .lit (.int .i64 7), .lit (.int .i64 11), .lit (.int .i64 17), .lit (.int .i64 18), .lit (.int .i64 3), .lit (.int .i64 5), .lit (.int .i64 16), .lit (.int .i64 8), .lit (.int .i64 21), .lit (.int .i64 24), .lit (.int .i64 4), .lit (.int .i64 15), .lit (.int .i64 23), .lit (.int .i64 19), .lit (.int .i64 13), .lit (.int .i64 12), .lit (.int .i64 2), .lit (.int .i64 20), .lit (.int .i64 14), .lit (.int .i64 22), .lit (.int .i64 9), .lit (.int .i64 6), .lit (.int .i64 1)]
def laid_unicode_utf8_acceptRanges {H : Type} : DataW H := .agg [.agg [.lit (.int .u8 128), .lit (.int .u8 191)], .agg [.lit (.int .u8 160), .lit (.int .u8 191)], .agg [.lit (.int .u8 128), .lit (.int .u8 159)], .agg [.lit (.int .u8 144), .lit (.int .u8 191)], .agg [.lit (.int .u8 128), .lit (.int .u8 143)], .agg [.lit (.int .u8 0), .lit (.int .u8 0)], .agg [.lit (.int .u8 0), .lit (.int .u8 0)], .agg [.lit (.int .u8 0), .lit (.int .u8 0)], .agg [.lit (.int .u8 0), .lit (.int .u8 0)], .agg [.lit (.int .u8 0), .lit (.int .u8 0)], .agg [.lit (.int .u8 0), .lit (.int .u8 0)], .agg [.lit (.int .u8 0), .lit (.int .u8 0)], .agg [.lit (.int .u8 0), .lit (.int .u8 0)], .agg [.lit (.int .u8 0), .lit (.int .u8 0)], .agg [.lit (.int .u8 0), .lit (.int .u8 0)], .agg [.lit (.int .u8 0), .lit (.int .u8 0)]]
/-- One of Go's own tables, pinned by name: the form's constant. -/
def laid_unicode_utf8_first : DataW Unit := Go.Pinned.utf8First

/-- 'pharoslaw07.ProofSizes': WHATEVER THE INPUT: true; the input reads as it did. -/
def proofSizesSpec : ChangeSpec := { name := "proofSizes", fn := fun _ => fun
  | [d1, d2, d3, d4] => { results := [.lit (.bool true)], args := [d1, d2, d3, d4] }
  | _ => none }
def proofSizesRow : OpenClaim := { program := "ythicdhnjincflaadoor", sum := "8b405fbad9a738e707b88e365c0937b799b5700e3cb93fb883b83093de3abfc6", func := "pharos/pharoslaw07.ProofSizes", spec := "proofSizes", inPlace := ["internal/abi.NoEscape", "internal/bytealg.MakeNoZero"], unfollowed := true, recurses := true, named := ["pharos/keccak.places", "pharos/keccak.turns", "pharos/keccak.constants"], apart := false, laid := [("pharos/keccak.constants", laid_pharos_keccak_constants), ("pharos/keccak.turns", laid_pharos_keccak_turns), ("pharos/keccak.places", laid_pharos_keccak_places)] }
def ProofSizesSaid : Prop := proofSizesRow.holds Tryd.pinned (OpenSpec.ofChange proofSizesSpec)

/-- ITS FALSE NEIGHBOUR: 'it returns false'. Refute it at one input. -/
def proofSizesWrong : ChangeSpec := { name := "proofSizes", fn := fun _ => fun
  | [d1, d2, d3, d4] => { results := [.lit (.bool false)], args := [d1, d2, d3, d4] }
  | _ => none }
def ProofSizesWrongFalsely : Prop := proofSizesRow.holds Tryd.pinned (OpenSpec.ofChange proofSizesWrong)

/-- 'pharoslaw07.ProofSound': WHATEVER THE INPUT: true; the input reads as it did. -/
def proofSoundSpec : ChangeSpec := { name := "proofSound", fn := fun _ => fun
  | [d1, d2, d3] => { results := [.lit (.bool true)], args := [d1, d2, d3] }
  | _ => none }
def proofSoundRow : OpenClaim := { program := "ythicdhnjincflaadoor", sum := "8b405fbad9a738e707b88e365c0937b799b5700e3cb93fb883b83093de3abfc6", func := "pharos/pharoslaw07.ProofSound", spec := "proofSound", inPlace := ["internal/abi.NoEscape", "internal/bytealg.MakeNoZero"], unfollowed := true, recurses := true, named := ["pharos/keccak.places", "pharos/keccak.turns", "pharos/keccak.constants"], apart := false, laid := [("pharos/keccak.constants", laid_pharos_keccak_constants), ("pharos/keccak.turns", laid_pharos_keccak_turns), ("pharos/keccak.places", laid_pharos_keccak_places)] }
def ProofSoundSaid : Prop := proofSoundRow.holds Tryd.pinned (OpenSpec.ofChange proofSoundSpec)

/-- ITS FALSE NEIGHBOUR: 'it returns false'. Refute it at one input. -/
def proofSoundWrong : ChangeSpec := { name := "proofSound", fn := fun _ => fun
  | [d1, d2, d3] => { results := [.lit (.bool false)], args := [d1, d2, d3] }
  | _ => none }
def ProofSoundWrongFalsely : Prop := proofSoundRow.holds Tryd.pinned (OpenSpec.ofChange proofSoundWrong)

/-- 'pharoslaw07.ProofOnly': WHATEVER THE INPUT: true; the input reads as it did. -/
def proofOnlySpec : ChangeSpec := { name := "proofOnly", fn := fun _ => fun
  | [d1, d2, d3, d4] => { results := [.lit (.bool true)], args := [d1, d2, d3, d4] }
  | _ => none }
def proofOnlyRow : OpenClaim := { program := "ythicdhnjincflaadoor", sum := "8b405fbad9a738e707b88e365c0937b799b5700e3cb93fb883b83093de3abfc6", func := "pharos/pharoslaw07.ProofOnly", spec := "proofOnly", inPlace := ["internal/abi.NoEscape", "internal/bytealg.MakeNoZero"], unfollowed := true, recurses := true, named := ["pharos/keccak.places", "pharos/keccak.turns", "pharos/keccak.constants"], apart := false, laid := [("pharos/keccak.constants", laid_pharos_keccak_constants), ("pharos/keccak.turns", laid_pharos_keccak_turns), ("pharos/keccak.places", laid_pharos_keccak_places)] }
def ProofOnlySaid : Prop := proofOnlyRow.holds Tryd.pinned (OpenSpec.ofChange proofOnlySpec)

/-- ITS FALSE NEIGHBOUR: 'it returns false'. Refute it at one input. -/
def proofOnlyWrong : ChangeSpec := { name := "proofOnly", fn := fun _ => fun
  | [d1, d2, d3, d4] => { results := [.lit (.bool false)], args := [d1, d2, d3, d4] }
  | _ => none }
def ProofOnlyWrongFalsely : Prop := proofOnlyRow.holds Tryd.pinned (OpenSpec.ofChange proofOnlyWrong)

/-- 'pharoslaw07.ProofShort': WHATEVER THE INPUT: true; the input reads as it did. -/
def proofShortSpec : ChangeSpec := { name := "proofShort", fn := fun _ => fun
  | [d1, d2, d3, d4] => { results := [.lit (.bool true)], args := [d1, d2, d3, d4] }
  | _ => none }
def proofShortRow : OpenClaim := { program := "ythicdhnjincflaadoor", sum := "8b405fbad9a738e707b88e365c0937b799b5700e3cb93fb883b83093de3abfc6", func := "pharos/pharoslaw07.ProofShort", spec := "proofShort", inPlace := ["internal/abi.NoEscape", "internal/bytealg.MakeNoZero"], unfollowed := true, recurses := true, named := ["pharos/keccak.places", "pharos/keccak.turns", "pharos/keccak.constants"], apart := false, laid := [("pharos/keccak.constants", laid_pharos_keccak_constants), ("pharos/keccak.turns", laid_pharos_keccak_turns), ("pharos/keccak.places", laid_pharos_keccak_places)] }
def ProofShortSaid : Prop := proofShortRow.holds Tryd.pinned (OpenSpec.ofChange proofShortSpec)

/-- ITS FALSE NEIGHBOUR: 'it returns false'. Refute it at one input. -/
def proofShortWrong : ChangeSpec := { name := "proofShort", fn := fun _ => fun
  | [d1, d2, d3, d4] => { results := [.lit (.bool false)], args := [d1, d2, d3, d4] }
  | _ => none }
def ProofShortWrongFalsely : Prop := proofShortRow.holds Tryd.pinned (OpenSpec.ofChange proofShortWrong)

/-- 'pharoslaw07.ProofLeads': WHATEVER THE INPUT: true; the input reads as it did. -/
def proofLeadsSpec : ChangeSpec := { name := "proofLeads", fn := fun _ => fun
  | [d1, d2, d3] => { results := [.lit (.bool true)], args := [d1, d2, d3] }
  | _ => none }
def proofLeadsRow : OpenClaim := { program := "ythicdhnjincflaadoor", sum := "8b405fbad9a738e707b88e365c0937b799b5700e3cb93fb883b83093de3abfc6", func := "pharos/pharoslaw07.ProofLeads", spec := "proofLeads", inPlace := ["internal/abi.NoEscape", "internal/bytealg.MakeNoZero", "internal/bytealg.IndexByteString", "internal/bytealg.IndexString"], unfollowed := true, recurses := true, named := ["pharos/keccak.places", "pharos/keccak.turns", "pharos/keccak.constants", "internal/bytealg.MaxLen"], apart := false, laid := [("pharos/keccak.constants", laid_pharos_keccak_constants), ("pharos/keccak.turns", laid_pharos_keccak_turns), ("pharos/keccak.places", laid_pharos_keccak_places)] }
def ProofLeadsSaid : Prop := proofLeadsRow.holds Tryd.pinned (OpenSpec.ofChange proofLeadsSpec)

/-- ITS FALSE NEIGHBOUR: 'it returns false'. Refute it at one input. -/
def proofLeadsWrong : ChangeSpec := { name := "proofLeads", fn := fun _ => fun
  | [d1, d2, d3] => { results := [.lit (.bool false)], args := [d1, d2, d3] }
  | _ => none }
def ProofLeadsWrongFalsely : Prop := proofLeadsRow.holds Tryd.pinned (OpenSpec.ofChange proofLeadsWrong)

/-- 'pharoslaw06.TrieRight': WHATEVER THE INPUT: true; the input reads as it did. -/
def trieRightSpec : ChangeSpec := { name := "trieRight", fn := fun _ => fun
  | [d] => { results := [.lit (.bool true)], args := [d] }
  | _ => none }
def trieRightRow : OpenClaim := { program := "ythicdhnjincflaadoor", sum := "8b405fbad9a738e707b88e365c0937b799b5700e3cb93fb883b83093de3abfc6", func := "pharos/pharoslaw06.TrieRight", spec := "trieRight", inPlace := ["internal/abi.NoEscape", "internal/bytealg.IndexByteString", "internal/bytealg.IndexString", "internal/bytealg.MakeNoZero"], unfollowed := true, recurses := true, named := ["unicode/utf8.first", "unicode/utf8.acceptRanges", "pharos/keccak.places", "pharos/keccak.turns", "pharos/keccak.constants", "internal/bytealg.MaxLen"], apart := false, laid := [("unicode/utf8.acceptRanges", laid_unicode_utf8_acceptRanges), ("pharos/keccak.constants", laid_pharos_keccak_constants), ("pharos/keccak.turns", laid_pharos_keccak_turns), ("pharos/keccak.places", laid_pharos_keccak_places), ("unicode/utf8.first", laid_unicode_utf8_first)] }
def TrieRightSaid : Prop := trieRightRow.holds Tryd.pinned (OpenSpec.ofChange trieRightSpec)

/-- ITS FALSE NEIGHBOUR: 'it returns false'. Refute it at one input. -/
def trieRightWrong : ChangeSpec := { name := "trieRight", fn := fun _ => fun
  | [d] => { results := [.lit (.bool false)], args := [d] }
  | _ => none }
def TrieRightWrongFalsely : Prop := trieRightRow.holds Tryd.pinned (OpenSpec.ofChange trieRightWrong)

/-- 'pharoslaw06.TrieOrder': WHATEVER THE INPUT: true; the input reads as it did. -/
def trieOrderSpec : ChangeSpec := { name := "trieOrder", fn := fun _ => fun
  | [d1, d2] => { results := [.lit (.bool true)], args := [d1, d2] }
  | _ => none }
def trieOrderRow : OpenClaim := { program := "ythicdhnjincflaadoor", sum := "8b405fbad9a738e707b88e365c0937b799b5700e3cb93fb883b83093de3abfc6", func := "pharos/pharoslaw06.TrieOrder", spec := "trieOrder", inPlace := ["internal/abi.NoEscape", "internal/bytealg.IndexByteString", "internal/bytealg.IndexString", "internal/bytealg.MakeNoZero"], unfollowed := true, recurses := true, named := ["unicode/utf8.first", "unicode/utf8.acceptRanges", "pharos/keccak.places", "pharos/keccak.turns", "pharos/keccak.constants", "internal/bytealg.MaxLen"], apart := false, laid := [("unicode/utf8.acceptRanges", laid_unicode_utf8_acceptRanges), ("pharos/keccak.constants", laid_pharos_keccak_constants), ("pharos/keccak.turns", laid_pharos_keccak_turns), ("pharos/keccak.places", laid_pharos_keccak_places), ("unicode/utf8.first", laid_unicode_utf8_first)] }
def TrieOrderSaid : Prop := trieOrderRow.holds Tryd.pinned (OpenSpec.ofChange trieOrderSpec)

/-- ITS FALSE NEIGHBOUR: 'it returns false'. Refute it at one input. -/
def trieOrderWrong : ChangeSpec := { name := "trieOrder", fn := fun _ => fun
  | [d1, d2] => { results := [.lit (.bool false)], args := [d1, d2] }
  | _ => none }
def TrieOrderWrongFalsely : Prop := trieOrderRow.holds Tryd.pinned (OpenSpec.ofChange trieOrderWrong)

/-- 'pharoslaw06.TrieApart': WHATEVER THE INPUT: true; the input reads as it did. -/
def trieApartSpec : ChangeSpec := { name := "trieApart", fn := fun _ => fun
  | [d1, d2] => { results := [.lit (.bool true)], args := [d1, d2] }
  | _ => none }
def trieApartRow : OpenClaim := { program := "ythicdhnjincflaadoor", sum := "8b405fbad9a738e707b88e365c0937b799b5700e3cb93fb883b83093de3abfc6", func := "pharos/pharoslaw06.TrieApart", spec := "trieApart", inPlace := ["internal/abi.NoEscape", "internal/bytealg.IndexByteString", "internal/bytealg.IndexString", "internal/bytealg.MakeNoZero"], unfollowed := true, recurses := true, named := ["unicode/utf8.first", "unicode/utf8.acceptRanges", "pharos/keccak.places", "pharos/keccak.turns", "pharos/keccak.constants", "internal/bytealg.MaxLen"], apart := false, laid := [("unicode/utf8.acceptRanges", laid_unicode_utf8_acceptRanges), ("pharos/keccak.constants", laid_pharos_keccak_constants), ("pharos/keccak.turns", laid_pharos_keccak_turns), ("pharos/keccak.places", laid_pharos_keccak_places), ("unicode/utf8.first", laid_unicode_utf8_first)] }
def TrieApartSaid : Prop := trieApartRow.holds Tryd.pinned (OpenSpec.ofChange trieApartSpec)

/-- ITS FALSE NEIGHBOUR: 'it returns false'. Refute it at one input. -/
def trieApartWrong : ChangeSpec := { name := "trieApart", fn := fun _ => fun
  | [d1, d2] => { results := [.lit (.bool false)], args := [d1, d2] }
  | _ => none }
def TrieApartWrongFalsely : Prop := trieApartRow.holds Tryd.pinned (OpenSpec.ofChange trieApartWrong)

/-- 'pharoslaw06.TrieRefers': WHATEVER THE INPUT: true; the input reads as it did. -/
def trieRefersSpec : ChangeSpec := { name := "trieRefers", fn := fun _ => fun
  | [d1, d2] => { results := [.lit (.bool true)], args := [d1, d2] }
  | _ => none }
def trieRefersRow : OpenClaim := { program := "ythicdhnjincflaadoor", sum := "8b405fbad9a738e707b88e365c0937b799b5700e3cb93fb883b83093de3abfc6", func := "pharos/pharoslaw06.TrieRefers", spec := "trieRefers", inPlace := ["internal/abi.NoEscape", "internal/bytealg.IndexByteString", "internal/bytealg.IndexString", "internal/bytealg.MakeNoZero"], unfollowed := true, recurses := true, named := ["unicode/utf8.first", "unicode/utf8.acceptRanges", "pharos/keccak.places", "pharos/keccak.turns", "pharos/keccak.constants", "internal/bytealg.MaxLen"], apart := false, laid := [("unicode/utf8.acceptRanges", laid_unicode_utf8_acceptRanges), ("pharos/keccak.constants", laid_pharos_keccak_constants), ("pharos/keccak.turns", laid_pharos_keccak_turns), ("pharos/keccak.places", laid_pharos_keccak_places), ("unicode/utf8.first", laid_unicode_utf8_first)] }
def TrieRefersSaid : Prop := trieRefersRow.holds Tryd.pinned (OpenSpec.ofChange trieRefersSpec)

/-- ITS FALSE NEIGHBOUR: 'it returns false'. Refute it at one input. -/
def trieRefersWrong : ChangeSpec := { name := "trieRefers", fn := fun _ => fun
  | [d1, d2] => { results := [.lit (.bool false)], args := [d1, d2] }
  | _ => none }
def TrieRefersWrongFalsely : Prop := trieRefersRow.holds Tryd.pinned (OpenSpec.ofChange trieRefersWrong)

/-- 'pharoslaw06.TrieTops': WHATEVER THE INPUT: true; the input reads as it did. -/
def trieTopsSpec : ChangeSpec := { name := "trieTops", fn := fun _ => fun
  | [d1, d2] => { results := [.lit (.bool true)], args := [d1, d2] }
  | _ => none }
def trieTopsRow : OpenClaim := { program := "ythicdhnjincflaadoor", sum := "8b405fbad9a738e707b88e365c0937b799b5700e3cb93fb883b83093de3abfc6", func := "pharos/pharoslaw06.TrieTops", spec := "trieTops", inPlace := ["internal/abi.NoEscape", "internal/bytealg.IndexByteString", "internal/bytealg.IndexString", "internal/bytealg.MakeNoZero"], unfollowed := true, recurses := true, named := ["unicode/utf8.first", "unicode/utf8.acceptRanges", "pharos/keccak.places", "pharos/keccak.turns", "pharos/keccak.constants", "internal/bytealg.MaxLen"], apart := false, laid := [("unicode/utf8.acceptRanges", laid_unicode_utf8_acceptRanges), ("pharos/keccak.constants", laid_pharos_keccak_constants), ("pharos/keccak.turns", laid_pharos_keccak_turns), ("pharos/keccak.places", laid_pharos_keccak_places), ("unicode/utf8.first", laid_unicode_utf8_first)] }
def TrieTopsSaid : Prop := trieTopsRow.holds Tryd.pinned (OpenSpec.ofChange trieTopsSpec)

/-- ITS FALSE NEIGHBOUR: 'it returns false'. Refute it at one input. -/
def trieTopsWrong : ChangeSpec := { name := "trieTops", fn := fun _ => fun
  | [d1, d2] => { results := [.lit (.bool false)], args := [d1, d2] }
  | _ => none }
def TrieTopsWrongFalsely : Prop := trieTopsRow.holds Tryd.pinned (OpenSpec.ofChange trieTopsWrong)

/- THE SECOND FORM. 'bulk': how many values and letters a reading holds, each counted each time it is reached (what is shared counts as often as it is met; a slice's spare places count too). A statement '..UptoSaid' is the law's where the arguments, and the package variables that the reading takes, are together of bulk at most 1048576: NARROWER than '..Said'. Prove '..Said' where nothing that the law and all that it calls make is longer than what came in: it says more and counts as full. Else prove '..UptoSaid'. A law counts once. -/
mutual
def uptoBulk {H : Type} : DataW H → Nat
  | .lit (.string bytes) => bytes.length + 1
  | .lit _ => 1
  | .nil => 1
  | .ptr d => uptoBulk d + 1
  | .slice elems spare => uptoBulkAll elems + uptoBulkAll spare + 1
  | .agg parts => uptoBulkAll parts + 1
  | .iface _ d => uptoBulk d + 1
  | .map entries => uptoBulkEntries entries + 1
  | .held _ => 1
def uptoBulkAll {H : Type} : List (DataW H) → Nat
  | [] => 0
  | d :: r => uptoBulk d + uptoBulkAll r
def uptoBulkEntries {H : Type} : List (Lit × DataW H) → Nat
  | [] => 0
  | x :: r => uptoBulkEntry x + uptoBulkEntries r
def uptoBulkEntry {H : Type} : Lit × DataW H → Nat
  | (.string bytes, d) => bytes.length + uptoBulk d + 1
  | (_, d) => uptoBulk d + 1
 end
def uptoSmall : (H : Type) → List (DataW H) → Bool := fun _ ds => decide (uptoBulkAll ds ≤ 1048576)
def OpenSpec.upto (s : _root_.Go.ChangeSpec) : _root_.Go.OpenSpec := { _root_.Go.OpenSpec.ofChange s with cond := some uptoSmall }

/-- 'pharoslaw07.ProofSizes', WHERE WHAT IT READS IS OF BULK AT MOST 1048576: true; the input reads as it did. -/
def proofSizesUptoRow : OpenClaim := { program := "ythicdhnjincflaadoor", sum := "8b405fbad9a738e707b88e365c0937b799b5700e3cb93fb883b83093de3abfc6", func := "pharos/pharoslaw07.ProofSizes", spec := "proofSizes", inPlace := ["internal/abi.NoEscape", "internal/bytealg.MakeNoZero"], unfollowed := true, recurses := true, named := ["pharos/keccak.places", "pharos/keccak.turns", "pharos/keccak.constants"], apart := false, laid := [("pharos/keccak.constants", laid_pharos_keccak_constants), ("pharos/keccak.turns", laid_pharos_keccak_turns), ("pharos/keccak.places", laid_pharos_keccak_places)], narrowed := true }
def ProofSizesUptoSaid : Prop := proofSizesUptoRow.holds Tryd.pinned (OpenSpec.upto proofSizesSpec)

/-- 'pharoslaw07.ProofSound', WHERE WHAT IT READS IS OF BULK AT MOST 1048576: true; the input reads as it did. -/
def proofSoundUptoRow : OpenClaim := { program := "ythicdhnjincflaadoor", sum := "8b405fbad9a738e707b88e365c0937b799b5700e3cb93fb883b83093de3abfc6", func := "pharos/pharoslaw07.ProofSound", spec := "proofSound", inPlace := ["internal/abi.NoEscape", "internal/bytealg.MakeNoZero"], unfollowed := true, recurses := true, named := ["pharos/keccak.places", "pharos/keccak.turns", "pharos/keccak.constants"], apart := false, laid := [("pharos/keccak.constants", laid_pharos_keccak_constants), ("pharos/keccak.turns", laid_pharos_keccak_turns), ("pharos/keccak.places", laid_pharos_keccak_places)], narrowed := true }
def ProofSoundUptoSaid : Prop := proofSoundUptoRow.holds Tryd.pinned (OpenSpec.upto proofSoundSpec)

/-- 'pharoslaw07.ProofOnly', WHERE WHAT IT READS IS OF BULK AT MOST 1048576: true; the input reads as it did. -/
def proofOnlyUptoRow : OpenClaim := { program := "ythicdhnjincflaadoor", sum := "8b405fbad9a738e707b88e365c0937b799b5700e3cb93fb883b83093de3abfc6", func := "pharos/pharoslaw07.ProofOnly", spec := "proofOnly", inPlace := ["internal/abi.NoEscape", "internal/bytealg.MakeNoZero"], unfollowed := true, recurses := true, named := ["pharos/keccak.places", "pharos/keccak.turns", "pharos/keccak.constants"], apart := false, laid := [("pharos/keccak.constants", laid_pharos_keccak_constants), ("pharos/keccak.turns", laid_pharos_keccak_turns), ("pharos/keccak.places", laid_pharos_keccak_places)], narrowed := true }
def ProofOnlyUptoSaid : Prop := proofOnlyUptoRow.holds Tryd.pinned (OpenSpec.upto proofOnlySpec)

/-- 'pharoslaw07.ProofShort', WHERE WHAT IT READS IS OF BULK AT MOST 1048576: true; the input reads as it did. -/
def proofShortUptoRow : OpenClaim := { program := "ythicdhnjincflaadoor", sum := "8b405fbad9a738e707b88e365c0937b799b5700e3cb93fb883b83093de3abfc6", func := "pharos/pharoslaw07.ProofShort", spec := "proofShort", inPlace := ["internal/abi.NoEscape", "internal/bytealg.MakeNoZero"], unfollowed := true, recurses := true, named := ["pharos/keccak.places", "pharos/keccak.turns", "pharos/keccak.constants"], apart := false, laid := [("pharos/keccak.constants", laid_pharos_keccak_constants), ("pharos/keccak.turns", laid_pharos_keccak_turns), ("pharos/keccak.places", laid_pharos_keccak_places)], narrowed := true }
def ProofShortUptoSaid : Prop := proofShortUptoRow.holds Tryd.pinned (OpenSpec.upto proofShortSpec)

/-- 'pharoslaw07.ProofLeads', WHERE WHAT IT READS IS OF BULK AT MOST 1048576: true; the input reads as it did. -/
def proofLeadsUptoRow : OpenClaim := { program := "ythicdhnjincflaadoor", sum := "8b405fbad9a738e707b88e365c0937b799b5700e3cb93fb883b83093de3abfc6", func := "pharos/pharoslaw07.ProofLeads", spec := "proofLeads", inPlace := ["internal/abi.NoEscape", "internal/bytealg.MakeNoZero", "internal/bytealg.IndexByteString", "internal/bytealg.IndexString"], unfollowed := true, recurses := true, named := ["pharos/keccak.places", "pharos/keccak.turns", "pharos/keccak.constants", "internal/bytealg.MaxLen"], apart := false, laid := [("pharos/keccak.constants", laid_pharos_keccak_constants), ("pharos/keccak.turns", laid_pharos_keccak_turns), ("pharos/keccak.places", laid_pharos_keccak_places)], narrowed := true }
def ProofLeadsUptoSaid : Prop := proofLeadsUptoRow.holds Tryd.pinned (OpenSpec.upto proofLeadsSpec)

/-- 'pharoslaw06.TrieRight', WHERE WHAT IT READS IS OF BULK AT MOST 1048576: true; the input reads as it did. -/
def trieRightUptoRow : OpenClaim := { program := "ythicdhnjincflaadoor", sum := "8b405fbad9a738e707b88e365c0937b799b5700e3cb93fb883b83093de3abfc6", func := "pharos/pharoslaw06.TrieRight", spec := "trieRight", inPlace := ["internal/abi.NoEscape", "internal/bytealg.IndexByteString", "internal/bytealg.IndexString", "internal/bytealg.MakeNoZero"], unfollowed := true, recurses := true, named := ["unicode/utf8.first", "unicode/utf8.acceptRanges", "pharos/keccak.places", "pharos/keccak.turns", "pharos/keccak.constants", "internal/bytealg.MaxLen"], apart := false, laid := [("unicode/utf8.acceptRanges", laid_unicode_utf8_acceptRanges), ("pharos/keccak.constants", laid_pharos_keccak_constants), ("pharos/keccak.turns", laid_pharos_keccak_turns), ("pharos/keccak.places", laid_pharos_keccak_places), ("unicode/utf8.first", laid_unicode_utf8_first)], narrowed := true }
def TrieRightUptoSaid : Prop := trieRightUptoRow.holds Tryd.pinned (OpenSpec.upto trieRightSpec)

/-- 'pharoslaw06.TrieOrder', WHERE WHAT IT READS IS OF BULK AT MOST 1048576: true; the input reads as it did. -/
def trieOrderUptoRow : OpenClaim := { program := "ythicdhnjincflaadoor", sum := "8b405fbad9a738e707b88e365c0937b799b5700e3cb93fb883b83093de3abfc6", func := "pharos/pharoslaw06.TrieOrder", spec := "trieOrder", inPlace := ["internal/abi.NoEscape", "internal/bytealg.IndexByteString", "internal/bytealg.IndexString", "internal/bytealg.MakeNoZero"], unfollowed := true, recurses := true, named := ["unicode/utf8.first", "unicode/utf8.acceptRanges", "pharos/keccak.places", "pharos/keccak.turns", "pharos/keccak.constants", "internal/bytealg.MaxLen"], apart := false, laid := [("unicode/utf8.acceptRanges", laid_unicode_utf8_acceptRanges), ("pharos/keccak.constants", laid_pharos_keccak_constants), ("pharos/keccak.turns", laid_pharos_keccak_turns), ("pharos/keccak.places", laid_pharos_keccak_places), ("unicode/utf8.first", laid_unicode_utf8_first)], narrowed := true }
def TrieOrderUptoSaid : Prop := trieOrderUptoRow.holds Tryd.pinned (OpenSpec.upto trieOrderSpec)

/-- 'pharoslaw06.TrieApart', WHERE WHAT IT READS IS OF BULK AT MOST 1048576: true; the input reads as it did. -/
def trieApartUptoRow : OpenClaim := { program := "ythicdhnjincflaadoor", sum := "8b405fbad9a738e707b88e365c0937b799b5700e3cb93fb883b83093de3abfc6", func := "pharos/pharoslaw06.TrieApart", spec := "trieApart", inPlace := ["internal/abi.NoEscape", "internal/bytealg.IndexByteString", "internal/bytealg.IndexString", "internal/bytealg.MakeNoZero"], unfollowed := true, recurses := true, named := ["unicode/utf8.first", "unicode/utf8.acceptRanges", "pharos/keccak.places", "pharos/keccak.turns", "pharos/keccak.constants", "internal/bytealg.MaxLen"], apart := false, laid := [("unicode/utf8.acceptRanges", laid_unicode_utf8_acceptRanges), ("pharos/keccak.constants", laid_pharos_keccak_constants), ("pharos/keccak.turns", laid_pharos_keccak_turns), ("pharos/keccak.places", laid_pharos_keccak_places), ("unicode/utf8.first", laid_unicode_utf8_first)], narrowed := true }
def TrieApartUptoSaid : Prop := trieApartUptoRow.holds Tryd.pinned (OpenSpec.upto trieApartSpec)

/-- 'pharoslaw06.TrieRefers', WHERE WHAT IT READS IS OF BULK AT MOST 1048576: true; the input reads as it did. -/
def trieRefersUptoRow : OpenClaim := { program := "ythicdhnjincflaadoor", sum := "8b405fbad9a738e707b88e365c0937b799b5700e3cb93fb883b83093de3abfc6", func := "pharos/pharoslaw06.TrieRefers", spec := "trieRefers", inPlace := ["internal/abi.NoEscape", "internal/bytealg.IndexByteString", "internal/bytealg.IndexString", "internal/bytealg.MakeNoZero"], unfollowed := true, recurses := true, named := ["unicode/utf8.first", "unicode/utf8.acceptRanges", "pharos/keccak.places", "pharos/keccak.turns", "pharos/keccak.constants", "internal/bytealg.MaxLen"], apart := false, laid := [("unicode/utf8.acceptRanges", laid_unicode_utf8_acceptRanges), ("pharos/keccak.constants", laid_pharos_keccak_constants), ("pharos/keccak.turns", laid_pharos_keccak_turns), ("pharos/keccak.places", laid_pharos_keccak_places), ("unicode/utf8.first", laid_unicode_utf8_first)], narrowed := true }
def TrieRefersUptoSaid : Prop := trieRefersUptoRow.holds Tryd.pinned (OpenSpec.upto trieRefersSpec)

/-- 'pharoslaw06.TrieTops', WHERE WHAT IT READS IS OF BULK AT MOST 1048576: true; the input reads as it did. -/
def trieTopsUptoRow : OpenClaim := { program := "ythicdhnjincflaadoor", sum := "8b405fbad9a738e707b88e365c0937b799b5700e3cb93fb883b83093de3abfc6", func := "pharos/pharoslaw06.TrieTops", spec := "trieTops", inPlace := ["internal/abi.NoEscape", "internal/bytealg.IndexByteString", "internal/bytealg.IndexString", "internal/bytealg.MakeNoZero"], unfollowed := true, recurses := true, named := ["unicode/utf8.first", "unicode/utf8.acceptRanges", "pharos/keccak.places", "pharos/keccak.turns", "pharos/keccak.constants", "internal/bytealg.MaxLen"], apart := false, laid := [("unicode/utf8.acceptRanges", laid_unicode_utf8_acceptRanges), ("pharos/keccak.constants", laid_pharos_keccak_constants), ("pharos/keccak.turns", laid_pharos_keccak_turns), ("pharos/keccak.places", laid_pharos_keccak_places), ("unicode/utf8.first", laid_unicode_utf8_first)], narrowed := true }
def TrieTopsUptoSaid : Prop := trieTopsUptoRow.holds Tryd.pinned (OpenSpec.upto trieTopsSpec)

end Rows
end Go.Proofs.YthicdhnjincflaaDoor
