/-
  NARROWER THAN 'FOR EVERY INPUT', by the rows' own cells (each row's printed sentence says how): NibsForms: laid · NibsJoins: laid · NibsReads: laid · NibsBack: laid · RlpDecodes: laid · RlpNumbers: laid · RlpBack: loops, laid · RlpApart: loops, laid · RlpShort: laid · RlpEncodes: loops, laid · RlpWraps: loops, laid.
  DERIVED. THE GIVEN ROWS OF THIS SEAT. 11 by the template 'for every input the law returns true; each argument reads behind the call as it read before'; 0 by the template 'total and deterministic' (their statements: YtjccllfgendpdaaDoorTotals.lean).
  GIVEN WITH THE SEED: the statements are not yours to turn. If you find one false, say at which input.
  Laid BY PROGRAM, IN A SANDBOX (cutbox-rows.mjs): the forced cells as the released guide's own fill.sh prints them over the translation 89150f39bb9c0fef… (all of the seat's roots in one cut). By AI agents, Wed Nov 11 2026. No macro, syntax, notation, axiom, sorry.
-/
import Derived.Test.YtjccllfgendpdaaDoorChecked
import GoSem.PinnedTables
import GoSem.Claim
import GoSem.ClaimJoined
import GoSem.ClaimMapViews
import Derived.JoinedTies
import Derived.KernelRfl
namespace Go.Proofs.YtjccllfgendpdaaDoor
/- THE CELL 'sum', in the pinned program and in every row, IS THE sha256 OF THE DUMP (.gsa) THAT YtjccllfgendpdaaDoorProg.lean LOADS. Nothing in Lean hashes anything: it is a label: what it is worth is what the hold of that sum in a sandbox is worth. -/
noncomputable def Tryd.pinned : Pinned := { name := "ytjccllfgendpdaadoor", sum := "89150f39bb9c0fef45e96bcd38b121e6347cde421258c66102bf6616f01541ef", checked := Tryd.checked }
namespace Rows
def none {H : Type} : Left H := { results := [], args := [] }

/- WHAT THE LISTED PACKAGE-LEVEL VARIABLES READ AS WHEN THE CALL BEGINS. Each datum BY PROGRAM (the guide's laid-datum.mjs) off the statement by which the dump's own 'gosem.cut.vars' lays the variable. In a bare row this is a premise. The card (YtjccllfgendpdaaDoorCards.lean) ties it to the program's text. -/
def laid_unicode_utf8_acceptRanges {H : Type} : DataW H := .agg [.agg [.lit (.int .u8 128), .lit (.int .u8 191)], .agg [.lit (.int .u8 160), .lit (.int .u8 191)], .agg [.lit (.int .u8 128), .lit (.int .u8 159)], .agg [.lit (.int .u8 144), .lit (.int .u8 191)], .agg [.lit (.int .u8 128), .lit (.int .u8 143)], .agg [.lit (.int .u8 0), .lit (.int .u8 0)], .agg [.lit (.int .u8 0), .lit (.int .u8 0)], .agg [.lit (.int .u8 0), .lit (.int .u8 0)], .agg [.lit (.int .u8 0), .lit (.int .u8 0)], .agg [.lit (.int .u8 0), .lit (.int .u8 0)], .agg [.lit (.int .u8 0), .lit (.int .u8 0)], .agg [.lit (.int .u8 0), .lit (.int .u8 0)], .agg [.lit (.int .u8 0), .lit (.int .u8 0)], .agg [.lit (.int .u8 0), .lit (.int .u8 0)], .agg [.lit (.int .u8 0), .lit (.int .u8 0)], .agg [.lit (.int .u8 0), .lit (.int .u8 0)]]
/-- One of Go's own tables, pinned by name: the form's constant. -/
def laid_unicode_utf8_first : DataW Unit := Go.Pinned.utf8First

/-- 'pharoslaw05.NibsForms': WHATEVER THE INPUT: true; the input reads as it did. -/
def nibsFormsSpec : ChangeSpec := { name := "nibsForms", fn := fun _ => fun
  | [d1, d2, d3] => { results := [.lit (.bool true)], args := [d1, d2, d3] }
  | _ => none }
def nibsFormsRow : OpenClaim := { program := "ytjccllfgendpdaadoor", sum := "89150f39bb9c0fef45e96bcd38b121e6347cde421258c66102bf6616f01541ef", func := "pharos/pharoslaw05.NibsForms", spec := "nibsForms", inPlace := ["internal/bytealg.IndexByteString", "internal/bytealg.IndexString", "internal/abi.NoEscape"], unfollowed := true, recurses := true, named := ["unicode/utf8.first", "unicode/utf8.acceptRanges", "internal/bytealg.MaxLen"], apart := false, laid := [("unicode/utf8.acceptRanges", laid_unicode_utf8_acceptRanges), ("unicode/utf8.first", laid_unicode_utf8_first)] }
def NibsFormsSaid : Prop := nibsFormsRow.holds Tryd.pinned (OpenSpec.ofChange nibsFormsSpec)

/-- ITS FALSE NEIGHBOUR: 'it returns false'. Refute it at one input. -/
def nibsFormsWrong : ChangeSpec := { name := "nibsForms", fn := fun _ => fun
  | [d1, d2, d3] => { results := [.lit (.bool false)], args := [d1, d2, d3] }
  | _ => none }
def NibsFormsWrongFalsely : Prop := nibsFormsRow.holds Tryd.pinned (OpenSpec.ofChange nibsFormsWrong)

/-- 'pharoslaw05.NibsJoins': WHATEVER THE INPUT: true; the input reads as it did. -/
def nibsJoinsSpec : ChangeSpec := { name := "nibsJoins", fn := fun _ => fun
  | [d1, d2] => { results := [.lit (.bool true)], args := [d1, d2] }
  | _ => none }
def nibsJoinsRow : OpenClaim := { program := "ytjccllfgendpdaadoor", sum := "89150f39bb9c0fef45e96bcd38b121e6347cde421258c66102bf6616f01541ef", func := "pharos/pharoslaw05.NibsJoins", spec := "nibsJoins", inPlace := ["internal/bytealg.IndexByteString", "internal/bytealg.IndexString", "internal/abi.NoEscape"], unfollowed := true, recurses := true, named := ["unicode/utf8.first", "unicode/utf8.acceptRanges", "internal/bytealg.MaxLen"], apart := false, laid := [("unicode/utf8.acceptRanges", laid_unicode_utf8_acceptRanges), ("unicode/utf8.first", laid_unicode_utf8_first)] }
def NibsJoinsSaid : Prop := nibsJoinsRow.holds Tryd.pinned (OpenSpec.ofChange nibsJoinsSpec)

/-- ITS FALSE NEIGHBOUR: 'it returns false'. Refute it at one input. -/
def nibsJoinsWrong : ChangeSpec := { name := "nibsJoins", fn := fun _ => fun
  | [d1, d2] => { results := [.lit (.bool false)], args := [d1, d2] }
  | _ => none }
def NibsJoinsWrongFalsely : Prop := nibsJoinsRow.holds Tryd.pinned (OpenSpec.ofChange nibsJoinsWrong)

/-- 'pharoslaw05.NibsReads': WHATEVER THE INPUT: true; the input reads as it did. -/
def nibsReadsSpec : ChangeSpec := { name := "nibsReads", fn := fun _ => fun
  | [d] => { results := [.lit (.bool true)], args := [d] }
  | _ => none }
def nibsReadsRow : OpenClaim := { program := "ytjccllfgendpdaadoor", sum := "89150f39bb9c0fef45e96bcd38b121e6347cde421258c66102bf6616f01541ef", func := "pharos/pharoslaw05.NibsReads", spec := "nibsReads", inPlace := ["internal/bytealg.IndexByteString", "internal/bytealg.IndexString", "internal/abi.NoEscape"], unfollowed := true, recurses := true, named := ["unicode/utf8.first", "unicode/utf8.acceptRanges", "internal/bytealg.MaxLen"], apart := false, laid := [("unicode/utf8.acceptRanges", laid_unicode_utf8_acceptRanges), ("unicode/utf8.first", laid_unicode_utf8_first)] }
def NibsReadsSaid : Prop := nibsReadsRow.holds Tryd.pinned (OpenSpec.ofChange nibsReadsSpec)

/-- ITS FALSE NEIGHBOUR: 'it returns false'. Refute it at one input. -/
def nibsReadsWrong : ChangeSpec := { name := "nibsReads", fn := fun _ => fun
  | [d] => { results := [.lit (.bool false)], args := [d] }
  | _ => none }
def NibsReadsWrongFalsely : Prop := nibsReadsRow.holds Tryd.pinned (OpenSpec.ofChange nibsReadsWrong)

/-- 'pharoslaw05.NibsBack': WHATEVER THE INPUT: true; the input reads as it did. -/
def nibsBackSpec : ChangeSpec := { name := "nibsBack", fn := fun _ => fun
  | [d1, d2, d3] => { results := [.lit (.bool true)], args := [d1, d2, d3] }
  | _ => none }
def nibsBackRow : OpenClaim := { program := "ytjccllfgendpdaadoor", sum := "89150f39bb9c0fef45e96bcd38b121e6347cde421258c66102bf6616f01541ef", func := "pharos/pharoslaw05.NibsBack", spec := "nibsBack", inPlace := ["internal/bytealg.IndexByteString", "internal/bytealg.IndexString", "internal/abi.NoEscape"], unfollowed := true, recurses := true, named := ["unicode/utf8.first", "unicode/utf8.acceptRanges", "internal/bytealg.MaxLen"], apart := false, laid := [("unicode/utf8.acceptRanges", laid_unicode_utf8_acceptRanges), ("unicode/utf8.first", laid_unicode_utf8_first)] }
def NibsBackSaid : Prop := nibsBackRow.holds Tryd.pinned (OpenSpec.ofChange nibsBackSpec)

/-- ITS FALSE NEIGHBOUR: 'it returns false'. Refute it at one input. -/
def nibsBackWrong : ChangeSpec := { name := "nibsBack", fn := fun _ => fun
  | [d1, d2, d3] => { results := [.lit (.bool false)], args := [d1, d2, d3] }
  | _ => none }
def NibsBackWrongFalsely : Prop := nibsBackRow.holds Tryd.pinned (OpenSpec.ofChange nibsBackWrong)

/-- 'pharoslaw04.RlpDecodes': WHATEVER THE INPUT: true; the input reads as it did. -/
def rlpDecodesSpec : ChangeSpec := { name := "rlpDecodes", fn := fun _ => fun
  | [d] => { results := [.lit (.bool true)], args := [d] }
  | _ => none }
def rlpDecodesRow : OpenClaim := { program := "ytjccllfgendpdaadoor", sum := "89150f39bb9c0fef45e96bcd38b121e6347cde421258c66102bf6616f01541ef", func := "pharos/pharoslaw04.RlpDecodes", spec := "rlpDecodes", inPlace := ["internal/abi.NoEscape", "internal/bytealg.IndexByteString", "internal/bytealg.IndexString"], unfollowed := true, recurses := true, named := ["unicode/utf8.first", "unicode/utf8.acceptRanges", "internal/bytealg.MaxLen"], apart := false, laid := [("unicode/utf8.acceptRanges", laid_unicode_utf8_acceptRanges), ("unicode/utf8.first", laid_unicode_utf8_first)] }
def RlpDecodesSaid : Prop := rlpDecodesRow.holds Tryd.pinned (OpenSpec.ofChange rlpDecodesSpec)

/-- ITS FALSE NEIGHBOUR: 'it returns false'. Refute it at one input. -/
def rlpDecodesWrong : ChangeSpec := { name := "rlpDecodes", fn := fun _ => fun
  | [d] => { results := [.lit (.bool false)], args := [d] }
  | _ => none }
def RlpDecodesWrongFalsely : Prop := rlpDecodesRow.holds Tryd.pinned (OpenSpec.ofChange rlpDecodesWrong)

/-- 'pharoslaw04.RlpNumbers': WHATEVER THE INPUT: true; the input reads as it did. -/
def rlpNumbersSpec : ChangeSpec := { name := "rlpNumbers", fn := fun _ => fun
  | [d1, d2] => { results := [.lit (.bool true)], args := [d1, d2] }
  | _ => none }
def rlpNumbersRow : OpenClaim := { program := "ytjccllfgendpdaadoor", sum := "89150f39bb9c0fef45e96bcd38b121e6347cde421258c66102bf6616f01541ef", func := "pharos/pharoslaw04.RlpNumbers", spec := "rlpNumbers", inPlace := ["internal/abi.NoEscape", "internal/bytealg.IndexByteString", "internal/bytealg.IndexString"], unfollowed := true, recurses := true, named := ["unicode/utf8.first", "unicode/utf8.acceptRanges", "internal/bytealg.MaxLen"], apart := false, laid := [("unicode/utf8.acceptRanges", laid_unicode_utf8_acceptRanges), ("unicode/utf8.first", laid_unicode_utf8_first)] }
def RlpNumbersSaid : Prop := rlpNumbersRow.holds Tryd.pinned (OpenSpec.ofChange rlpNumbersSpec)

/-- ITS FALSE NEIGHBOUR: 'it returns false'. Refute it at one input. -/
def rlpNumbersWrong : ChangeSpec := { name := "rlpNumbers", fn := fun _ => fun
  | [d1, d2] => { results := [.lit (.bool false)], args := [d1, d2] }
  | _ => none }
def RlpNumbersWrongFalsely : Prop := rlpNumbersRow.holds Tryd.pinned (OpenSpec.ofChange rlpNumbersWrong)

/-- 'pharoslaw04.RlpBack': WHATEVER THE INPUT: true; the input reads as it did. -/
def rlpBackSpec : ChangeSpec := { name := "rlpBack", fn := fun _ => fun
  | [d1, d2] => { results := [.lit (.bool true)], args := [d1, d2] }
  | _ => none }
def rlpBackRow : OpenClaim := { program := "ytjccllfgendpdaadoor", sum := "89150f39bb9c0fef45e96bcd38b121e6347cde421258c66102bf6616f01541ef", func := "pharos/pharoslaw04.RlpBack", spec := "rlpBack", inPlace := ["internal/abi.NoEscape", "internal/bytealg.IndexByteString", "internal/bytealg.IndexString"], unfollowed := true, recurses := true, named := ["unicode/utf8.first", "unicode/utf8.acceptRanges", "internal/bytealg.MaxLen"], loops := true, apart := false, laid := [("unicode/utf8.acceptRanges", laid_unicode_utf8_acceptRanges), ("unicode/utf8.first", laid_unicode_utf8_first)] }
def RlpBackSaid : Prop := rlpBackRow.holds Tryd.pinned (OpenSpec.ofChange rlpBackSpec)

/-- ITS FALSE NEIGHBOUR: 'it returns false'. Refute it at one input. -/
def rlpBackWrong : ChangeSpec := { name := "rlpBack", fn := fun _ => fun
  | [d1, d2] => { results := [.lit (.bool false)], args := [d1, d2] }
  | _ => none }
def RlpBackWrongFalsely : Prop := rlpBackRow.holds Tryd.pinned (OpenSpec.ofChange rlpBackWrong)

/-- 'pharoslaw04.RlpApart': WHATEVER THE INPUT: true; the input reads as it did. -/
def rlpApartSpec : ChangeSpec := { name := "rlpApart", fn := fun _ => fun
  | [d1, d2] => { results := [.lit (.bool true)], args := [d1, d2] }
  | _ => none }
def rlpApartRow : OpenClaim := { program := "ytjccllfgendpdaadoor", sum := "89150f39bb9c0fef45e96bcd38b121e6347cde421258c66102bf6616f01541ef", func := "pharos/pharoslaw04.RlpApart", spec := "rlpApart", inPlace := ["internal/abi.NoEscape", "internal/bytealg.IndexByteString", "internal/bytealg.IndexString"], unfollowed := true, recurses := true, named := ["unicode/utf8.first", "unicode/utf8.acceptRanges", "internal/bytealg.MaxLen"], loops := true, apart := false, laid := [("unicode/utf8.acceptRanges", laid_unicode_utf8_acceptRanges), ("unicode/utf8.first", laid_unicode_utf8_first)] }
def RlpApartSaid : Prop := rlpApartRow.holds Tryd.pinned (OpenSpec.ofChange rlpApartSpec)

/-- ITS FALSE NEIGHBOUR: 'it returns false'. Refute it at one input. -/
def rlpApartWrong : ChangeSpec := { name := "rlpApart", fn := fun _ => fun
  | [d1, d2] => { results := [.lit (.bool false)], args := [d1, d2] }
  | _ => none }
def RlpApartWrongFalsely : Prop := rlpApartRow.holds Tryd.pinned (OpenSpec.ofChange rlpApartWrong)

/-- 'pharoslaw04.RlpShort': WHATEVER THE INPUT: true; the input reads as it did. -/
def rlpShortSpec : ChangeSpec := { name := "rlpShort", fn := fun _ => fun
  | [d1, d2] => { results := [.lit (.bool true)], args := [d1, d2] }
  | _ => none }
def rlpShortRow : OpenClaim := { program := "ytjccllfgendpdaadoor", sum := "89150f39bb9c0fef45e96bcd38b121e6347cde421258c66102bf6616f01541ef", func := "pharos/pharoslaw04.RlpShort", spec := "rlpShort", inPlace := ["internal/abi.NoEscape", "internal/bytealg.IndexByteString", "internal/bytealg.IndexString"], unfollowed := true, recurses := true, named := ["unicode/utf8.first", "unicode/utf8.acceptRanges", "internal/bytealg.MaxLen"], apart := false, laid := [("unicode/utf8.acceptRanges", laid_unicode_utf8_acceptRanges), ("unicode/utf8.first", laid_unicode_utf8_first)] }
def RlpShortSaid : Prop := rlpShortRow.holds Tryd.pinned (OpenSpec.ofChange rlpShortSpec)

/-- ITS FALSE NEIGHBOUR: 'it returns false'. Refute it at one input. -/
def rlpShortWrong : ChangeSpec := { name := "rlpShort", fn := fun _ => fun
  | [d1, d2] => { results := [.lit (.bool false)], args := [d1, d2] }
  | _ => none }
def RlpShortWrongFalsely : Prop := rlpShortRow.holds Tryd.pinned (OpenSpec.ofChange rlpShortWrong)

/-- 'pharoslaw04.RlpEncodes': WHATEVER THE INPUT: true; the input reads as it did. -/
def rlpEncodesSpec : ChangeSpec := { name := "rlpEncodes", fn := fun _ => fun
  | [d1, d2] => { results := [.lit (.bool true)], args := [d1, d2] }
  | _ => none }
def rlpEncodesRow : OpenClaim := { program := "ytjccllfgendpdaadoor", sum := "89150f39bb9c0fef45e96bcd38b121e6347cde421258c66102bf6616f01541ef", func := "pharos/pharoslaw04.RlpEncodes", spec := "rlpEncodes", inPlace := ["internal/abi.NoEscape", "internal/bytealg.IndexByteString", "internal/bytealg.IndexString"], unfollowed := true, recurses := true, named := ["unicode/utf8.first", "unicode/utf8.acceptRanges", "internal/bytealg.MaxLen"], loops := true, apart := false, laid := [("unicode/utf8.acceptRanges", laid_unicode_utf8_acceptRanges), ("unicode/utf8.first", laid_unicode_utf8_first)] }
def RlpEncodesSaid : Prop := rlpEncodesRow.holds Tryd.pinned (OpenSpec.ofChange rlpEncodesSpec)

/-- ITS FALSE NEIGHBOUR: 'it returns false'. Refute it at one input. -/
def rlpEncodesWrong : ChangeSpec := { name := "rlpEncodes", fn := fun _ => fun
  | [d1, d2] => { results := [.lit (.bool false)], args := [d1, d2] }
  | _ => none }
def RlpEncodesWrongFalsely : Prop := rlpEncodesRow.holds Tryd.pinned (OpenSpec.ofChange rlpEncodesWrong)

/-- 'pharoslaw04.RlpWraps': WHATEVER THE INPUT: true; the input reads as it did. -/
def rlpWrapsSpec : ChangeSpec := { name := "rlpWraps", fn := fun _ => fun
  | [d1, d2] => { results := [.lit (.bool true)], args := [d1, d2] }
  | _ => none }
def rlpWrapsRow : OpenClaim := { program := "ytjccllfgendpdaadoor", sum := "89150f39bb9c0fef45e96bcd38b121e6347cde421258c66102bf6616f01541ef", func := "pharos/pharoslaw04.RlpWraps", spec := "rlpWraps", inPlace := ["internal/abi.NoEscape", "internal/bytealg.IndexByteString", "internal/bytealg.IndexString"], unfollowed := true, recurses := true, named := ["unicode/utf8.first", "unicode/utf8.acceptRanges", "internal/bytealg.MaxLen"], loops := true, apart := false, laid := [("unicode/utf8.acceptRanges", laid_unicode_utf8_acceptRanges), ("unicode/utf8.first", laid_unicode_utf8_first)] }
def RlpWrapsSaid : Prop := rlpWrapsRow.holds Tryd.pinned (OpenSpec.ofChange rlpWrapsSpec)

/-- ITS FALSE NEIGHBOUR: 'it returns false'. Refute it at one input. -/
def rlpWrapsWrong : ChangeSpec := { name := "rlpWraps", fn := fun _ => fun
  | [d1, d2] => { results := [.lit (.bool false)], args := [d1, d2] }
  | _ => none }
def RlpWrapsWrongFalsely : Prop := rlpWrapsRow.holds Tryd.pinned (OpenSpec.ofChange rlpWrapsWrong)

/- THE SECOND FORM. 'bulk': how many values and letters a reading holds, each counted each time it is reached (what is shared counts as often as it is met; a slice's spare places count too). A statement '..UptoSaid' is the law's where the arguments, and the package variables that the reading takes, are together of bulk at most 1048576: NARROWER than '..Said'. Prove '..Said' where nothing that the law and all that it calls make is longer than what came in: it says more and counts as full. Else prove '..UptoSaid'. A law counts once. -/
mutual
def uptoBulk {H : Type} : DataW H → Nat
  | .lit (.string bytes) => bytes.length + 1
  | .lit _ => 1
  | .nil => 1
  | .ptr d => uptoBulk d + 1
  | .slice elems spare => uptoBulkAll elems + uptoBulkAll spare + 1
  | .agg parts => uptoBulkAll parts + 1
  | .iface _ d => uptoBulk d + 1
  | .map entries => uptoBulkEntries entries + 1
  | .held _ => 1
def uptoBulkAll {H : Type} : List (DataW H) → Nat
  | [] => 0
  | d :: r => uptoBulk d + uptoBulkAll r
def uptoBulkEntries {H : Type} : List (Lit × DataW H) → Nat
  | [] => 0
  | x :: r => uptoBulkEntry x + uptoBulkEntries r
def uptoBulkEntry {H : Type} : Lit × DataW H → Nat
  | (.string bytes, d) => bytes.length + uptoBulk d + 1
  | (_, d) => uptoBulk d + 1
 end
def uptoSmall : (H : Type) → List (DataW H) → Bool := fun _ ds => decide (uptoBulkAll ds ≤ 1048576)
def OpenSpec.upto (s : _root_.Go.ChangeSpec) : _root_.Go.OpenSpec := { _root_.Go.OpenSpec.ofChange s with cond := some uptoSmall }

/-- 'pharoslaw05.NibsForms', WHERE WHAT IT READS IS OF BULK AT MOST 1048576: true; the input reads as it did. -/
def nibsFormsUptoRow : OpenClaim := { program := "ytjccllfgendpdaadoor", sum := "89150f39bb9c0fef45e96bcd38b121e6347cde421258c66102bf6616f01541ef", func := "pharos/pharoslaw05.NibsForms", spec := "nibsForms", inPlace := ["internal/bytealg.IndexByteString", "internal/bytealg.IndexString", "internal/abi.NoEscape"], unfollowed := true, recurses := true, named := ["unicode/utf8.first", "unicode/utf8.acceptRanges", "internal/bytealg.MaxLen"], apart := false, laid := [("unicode/utf8.acceptRanges", laid_unicode_utf8_acceptRanges), ("unicode/utf8.first", laid_unicode_utf8_first)], narrowed := true }
def NibsFormsUptoSaid : Prop := nibsFormsUptoRow.holds Tryd.pinned (OpenSpec.upto nibsFormsSpec)

/-- 'pharoslaw05.NibsJoins', WHERE WHAT IT READS IS OF BULK AT MOST 1048576: true; the input reads as it did. -/
def nibsJoinsUptoRow : OpenClaim := { program := "ytjccllfgendpdaadoor", sum := "89150f39bb9c0fef45e96bcd38b121e6347cde421258c66102bf6616f01541ef", func := "pharos/pharoslaw05.NibsJoins", spec := "nibsJoins", inPlace := ["internal/bytealg.IndexByteString", "internal/bytealg.IndexString", "internal/abi.NoEscape"], unfollowed := true, recurses := true, named := ["unicode/utf8.first", "unicode/utf8.acceptRanges", "internal/bytealg.MaxLen"], apart := false, laid := [("unicode/utf8.acceptRanges", laid_unicode_utf8_acceptRanges), ("unicode/utf8.first", laid_unicode_utf8_first)], narrowed := true }
def NibsJoinsUptoSaid : Prop := nibsJoinsUptoRow.holds Tryd.pinned (OpenSpec.upto nibsJoinsSpec)

/-- 'pharoslaw05.NibsReads', WHERE WHAT IT READS IS OF BULK AT MOST 1048576: true; the input reads as it did. -/
def nibsReadsUptoRow : OpenClaim := { program := "ytjccllfgendpdaadoor", sum := "89150f39bb9c0fef45e96bcd38b121e6347cde421258c66102bf6616f01541ef", func := "pharos/pharoslaw05.NibsReads", spec := "nibsReads", inPlace := ["internal/bytealg.IndexByteString", "internal/bytealg.IndexString", "internal/abi.NoEscape"], unfollowed := true, recurses := true, named := ["unicode/utf8.first", "unicode/utf8.acceptRanges", "internal/bytealg.MaxLen"], apart := false, laid := [("unicode/utf8.acceptRanges", laid_unicode_utf8_acceptRanges), ("unicode/utf8.first", laid_unicode_utf8_first)], narrowed := true }
def NibsReadsUptoSaid : Prop := nibsReadsUptoRow.holds Tryd.pinned (OpenSpec.upto nibsReadsSpec)

/-- 'pharoslaw05.NibsBack', WHERE WHAT IT READS IS OF BULK AT MOST 1048576: true; the input reads as it did. -/
def nibsBackUptoRow : OpenClaim := { program := "ytjccllfgendpdaadoor", sum := "89150f39bb9c0fef45e96bcd38b121e6347cde421258c66102bf6616f01541ef", func := "pharos/pharoslaw05.NibsBack", spec := "nibsBack", inPlace := ["internal/bytealg.IndexByteString", "internal/bytealg.IndexString", "internal/abi.NoEscape"], unfollowed := true, recurses := true, named := ["unicode/utf8.first", "unicode/utf8.acceptRanges", "internal/bytealg.MaxLen"], apart := false, laid := [("unicode/utf8.acceptRanges", laid_unicode_utf8_acceptRanges), ("unicode/utf8.first", laid_unicode_utf8_first)], narrowed := true }
def NibsBackUptoSaid : Prop := nibsBackUptoRow.holds Tryd.pinned (OpenSpec.upto nibsBackSpec)

/-- 'pharoslaw04.RlpDecodes', WHERE WHAT IT READS IS OF BULK AT MOST 1048576: true; the input reads as it did. -/
def rlpDecodesUptoRow : OpenClaim := { program := "ytjccllfgendpdaadoor", sum := "89150f39bb9c0fef45e96bcd38b121e6347cde421258c66102bf6616f01541ef", func := "pharos/pharoslaw04.RlpDecodes", spec := "rlpDecodes", inPlace := ["internal/abi.NoEscape", "internal/bytealg.IndexByteString", "internal/bytealg.IndexString"], unfollowed := true, recurses := true, named := ["unicode/utf8.first", "unicode/utf8.acceptRanges", "internal/bytealg.MaxLen"], apart := false, laid := [("unicode/utf8.acceptRanges", laid_unicode_utf8_acceptRanges), ("unicode/utf8.first", laid_unicode_utf8_first)], narrowed := true }
def RlpDecodesUptoSaid : Prop := rlpDecodesUptoRow.holds Tryd.pinned (OpenSpec.upto rlpDecodesSpec)

/-- 'pharoslaw04.RlpNumbers', WHERE WHAT IT READS IS OF BULK AT MOST 1048576: true; the input reads as it did. -/
def rlpNumbersUptoRow : OpenClaim := { program := "ytjccllfgendpdaadoor", sum := "89150f39bb9c0fef45e96bcd38b121e6347cde421258c66102bf6616f01541ef", func := "pharos/pharoslaw04.RlpNumbers", spec := "rlpNumbers", inPlace := ["internal/abi.NoEscape", "internal/bytealg.IndexByteString", "internal/bytealg.IndexString"], unfollowed := true, recurses := true, named := ["unicode/utf8.first", "unicode/utf8.acceptRanges", "internal/bytealg.MaxLen"], apart := false, laid := [("unicode/utf8.acceptRanges", laid_unicode_utf8_acceptRanges), ("unicode/utf8.first", laid_unicode_utf8_first)], narrowed := true }
def RlpNumbersUptoSaid : Prop := rlpNumbersUptoRow.holds Tryd.pinned (OpenSpec.upto rlpNumbersSpec)

/-- 'pharoslaw04.RlpBack', WHERE WHAT IT READS IS OF BULK AT MOST 1048576: true; the input reads as it did. -/
def rlpBackUptoRow : OpenClaim := { program := "ytjccllfgendpdaadoor", sum := "89150f39bb9c0fef45e96bcd38b121e6347cde421258c66102bf6616f01541ef", func := "pharos/pharoslaw04.RlpBack", spec := "rlpBack", inPlace := ["internal/abi.NoEscape", "internal/bytealg.IndexByteString", "internal/bytealg.IndexString"], unfollowed := true, recurses := true, named := ["unicode/utf8.first", "unicode/utf8.acceptRanges", "internal/bytealg.MaxLen"], loops := true, apart := false, laid := [("unicode/utf8.acceptRanges", laid_unicode_utf8_acceptRanges), ("unicode/utf8.first", laid_unicode_utf8_first)], narrowed := true }
def RlpBackUptoSaid : Prop := rlpBackUptoRow.holds Tryd.pinned (OpenSpec.upto rlpBackSpec)

/-- 'pharoslaw04.RlpApart', WHERE WHAT IT READS IS OF BULK AT MOST 1048576: true; the input reads as it did. -/
def rlpApartUptoRow : OpenClaim := { program := "ytjccllfgendpdaadoor", sum := "89150f39bb9c0fef45e96bcd38b121e6347cde421258c66102bf6616f01541ef", func := "pharos/pharoslaw04.RlpApart", spec := "rlpApart", inPlace := ["internal/abi.NoEscape", "internal/bytealg.IndexByteString", "internal/bytealg.IndexString"], unfollowed := true, recurses := true, named := ["unicode/utf8.first", "unicode/utf8.acceptRanges", "internal/bytealg.MaxLen"], loops := true, apart := false, laid := [("unicode/utf8.acceptRanges", laid_unicode_utf8_acceptRanges), ("unicode/utf8.first", laid_unicode_utf8_first)], narrowed := true }
def RlpApartUptoSaid : Prop := rlpApartUptoRow.holds Tryd.pinned (OpenSpec.upto rlpApartSpec)

/-- 'pharoslaw04.RlpShort', WHERE WHAT IT READS IS OF BULK AT MOST 1048576: true; the input reads as it did. -/
def rlpShortUptoRow : OpenClaim := { program := "ytjccllfgendpdaadoor", sum := "89150f39bb9c0fef45e96bcd38b121e6347cde421258c66102bf6616f01541ef", func := "pharos/pharoslaw04.RlpShort", spec := "rlpShort", inPlace := ["internal/abi.NoEscape", "internal/bytealg.IndexByteString", "internal/bytealg.IndexString"], unfollowed := true, recurses := true, named := ["unicode/utf8.first", "unicode/utf8.acceptRanges", "internal/bytealg.MaxLen"], apart := false, laid := [("unicode/utf8.acceptRanges", laid_unicode_utf8_acceptRanges), ("unicode/utf8.first", laid_unicode_utf8_first)], narrowed := true }
def RlpShortUptoSaid : Prop := rlpShortUptoRow.holds Tryd.pinned (OpenSpec.upto rlpShortSpec)

/-- 'pharoslaw04.RlpEncodes', WHERE WHAT IT READS IS OF BULK AT MOST 1048576: true; the input reads as it did. -/
def rlpEncodesUptoRow : OpenClaim := { program := "ytjccllfgendpdaadoor", sum := "89150f39bb9c0fef45e96bcd38b121e6347cde421258c66102bf6616f01541ef", func := "pharos/pharoslaw04.RlpEncodes", spec := "rlpEncodes", inPlace := ["internal/abi.NoEscape", "internal/bytealg.IndexByteString", "internal/bytealg.IndexString"], unfollowed := true, recurses := true, named := ["unicode/utf8.first", "unicode/utf8.acceptRanges", "internal/bytealg.MaxLen"], loops := true, apart := false, laid := [("unicode/utf8.acceptRanges", laid_unicode_utf8_acceptRanges), ("unicode/utf8.first", laid_unicode_utf8_first)], narrowed := true }
def RlpEncodesUptoSaid : Prop := rlpEncodesUptoRow.holds Tryd.pinned (OpenSpec.upto rlpEncodesSpec)

/-- 'pharoslaw04.RlpWraps', WHERE WHAT IT READS IS OF BULK AT MOST 1048576: true; the input reads as it did. -/
def rlpWrapsUptoRow : OpenClaim := { program := "ytjccllfgendpdaadoor", sum := "89150f39bb9c0fef45e96bcd38b121e6347cde421258c66102bf6616f01541ef", func := "pharos/pharoslaw04.RlpWraps", spec := "rlpWraps", inPlace := ["internal/abi.NoEscape", "internal/bytealg.IndexByteString", "internal/bytealg.IndexString"], unfollowed := true, recurses := true, named := ["unicode/utf8.first", "unicode/utf8.acceptRanges", "internal/bytealg.MaxLen"], loops := true, apart := false, laid := [("unicode/utf8.acceptRanges", laid_unicode_utf8_acceptRanges), ("unicode/utf8.first", laid_unicode_utf8_first)], narrowed := true }
def RlpWrapsUptoSaid : Prop := rlpWrapsUptoRow.holds Tryd.pinned (OpenSpec.upto rlpWrapsSpec)

end Rows
end Go.Proofs.YtjccllfgendpdaaDoor
