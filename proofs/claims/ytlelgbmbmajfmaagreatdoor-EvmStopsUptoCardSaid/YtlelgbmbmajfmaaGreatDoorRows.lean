/-
  NARROWER THAN 'FOR EVERY INPUT', by the rows' own cells (each row's printed sentence says how): TopThree: laid · EvmReckons: laid · EvmNone: laid · EvmEchoes: laid · EvmKeeps: laid · EvmStops: laid · EvmLeaves: laid · EvmStatic: laid.
  DERIVED. THE GIVEN ROWS OF THIS SEAT. 8 by the template 'for every input the law returns true; each argument reads behind the call as it read before'; 0 by the template 'total and deterministic' (their statements: YtlelgbmbmajfmaaGreatDoorTotals.lean).
  GIVEN WITH THE SEED: the statements are not yours to turn. If you find one false, say at which input.
  Laid BY PROGRAM, IN A SANDBOX (cutbox-rows.mjs): the forced cells as the released guide's own fill.sh prints them over the translation 20252030944377b4… (all of the seat's roots in one cut). By AI agents, Wed Nov 11 2026. No macro, syntax, notation, axiom, sorry.
-/
import Derived.Test.YtlelgbmbmajfmaaGreatDoorChecked
import GoSem.PinnedTables
import GoSem.Claim
import GoSem.ClaimJoined
import GoSem.ClaimMapViews
import Derived.JoinedTies
import Derived.KernelRfl
namespace Go.Proofs.YtlelgbmbmajfmaaGreatDoor
/- THE CELL 'sum', in the pinned program and in every row, IS THE sha256 OF THE DUMP (.gsa) THAT YtlelgbmbmajfmaaGreatDoorProg.lean LOADS. Nothing in Lean hashes anything: it is a label: what it is worth is what the hold of that sum in a sandbox is worth. -/
noncomputable def Tryz.pinned : Pinned := { name := "ytlelgbmbmajfmaagreatdoor", sum := "20252030944377b4a10d545b5fe9f0a8cd645e49b8e71240a783b583d6193515", checked := Tryz.checked }
namespace Rows
def none {H : Type} : Left H := { results := [], args := [] }

/- WHAT THE LISTED PACKAGE-LEVEL VARIABLES READ AS WHEN THE CALL BEGINS. Each datum BY PROGRAM (the guide's laid-datum.mjs) off the statement by which the dump's own 'gosem.cut.vars' lays the variable. In a bare row this is a premise. The card (YtlelgbmbmajfmaaGreatDoorCards.lean) ties it to the program's text. -/
def laid_unicode_utf8_acceptRanges {H : Type} : DataW H := .agg [.agg [.lit (.int .u8 128), .lit (.int .u8 191)], .agg [.lit (.int .u8 160), .lit (.int .u8 191)], .agg [.lit (.int .u8 128), .lit (.int .u8 159)], .agg [.lit (.int .u8 144), .lit (.int .u8 191)], .agg [.lit (.int .u8 128), .lit (.int .u8 143)], .agg [.lit (.int .u8 0), .lit (.int .u8 0)], .agg [.lit (.int .u8 0), .lit (.int .u8 0)], .agg [.lit (.int .u8 0), .lit (.int .u8 0)], .agg [.lit (.int .u8 0), .lit (.int .u8 0)], .agg [.lit (.int .u8 0), .lit (.int .u8 0)], .agg [.lit (.int .u8 0), .lit (.int .u8 0)], .agg [.lit (.int .u8 0), .lit (.int .u8 0)], .agg [.lit (.int .u8 0), .lit (.int .u8 0)], .agg [.lit (.int .u8 0), .lit (.int .u8 0)], .agg [.lit (.int .u8 0), .lit (.int .u8 0)], .agg [.lit (.int .u8 0), .lit (.int .u8 0)]]
def laid_pharos_keccak_constants {H : Type} : DataW H := .agg [.lit (.int .u64 1), .lit (.int .u64 32898), .lit (.int .u64 9223372036854808714), .lit (.int .u64 9223372039002292224), .lit (.int .u64 32907), .lit (.int .u64 2147483649), .lit (.int .u64 9223372039002292353), .lit (.int .u64 9223372036854808585), .lit (.int .u64 138), .lit (.int .u64 136), .lit (.int .u64 2147516425), .lit (.int .u64 2147483658), .lit (.int .u64 2147516555), .lit (.int .u64 9223372036854775947), .lit (.int .u64 9223372036854808713), .lit (.int .u64 9223372036854808579), .lit (.int .u64 9223372036854808578), .lit (.int .u64 9223372036854775936), .lit (.int .u64 32778), .lit (.int .u64 9223372039002259466), .lit (.int .u64 9223372039002292353), .lit (.int .u64 9223372036854808704), .lit (.int .u64 2147483649), .lit (.int .u64 9223372039002292232)]
def laid_pharos_keccak_turns {H : Type} : DataW H := .agg [.lit (.int .i64 1), .lit (.int .i64 3), .lit (.int .i64 6), .lit (.int .i64 10), .lit (.int .i64 15), .lit (.int .i64 21), .lit (.int .i64 28), .lit (.int .i64 36), .lit (.int .i64 45), .lit (.int .i64 55), .lit (.int .i64 2), .lit (.int .i64 14), .lit (.int .i64 27), .lit (.int .i64 41), .lit (.int .i64 56), .lit (.int .i64 8), .lit (.int .i64 25), .lit (.int .i64 43), .lit (.int .i64 62), .lit (.int .i64 18), .lit (.int .i64 39), .lit (.int .i64 61), .lit (.int .i64 20), .lit (.int .i64 44)]
def laid_pharos_keccak_places {H : Type} : DataW H := .agg [.lit (.int .i64 10), .lit (.int .i64 7), .lit (.int .i64 11), .lit (.int .i64 17), .lit (.int .i64 18), .lit (.int .i64 3), .lit (.int .i64 5), .lit (.int .i64 16), .lit (.int .i64 8), .lit (.int .i64 21), .lit (.int .i64 24), .lit (.int .i64 4), .lit (.int .i64 15), .lit (.int .i64 23), .lit (.int .i64 19), .lit (.int .i64 13), .lit (.int .i64 12), .lit (.int .i64 2), .lit (.int .i64 20), .lit (.int .i64 14), .lit (.int .i64 22), .lit (.int .i64 9), .lit (.int .i64 6), .lit (.int .i64 1)]
def laid_pharos_sha_k {H : Type} : DataW H := .agg [.lit (.int .u32 1116352408), .lit (.int .u32 1899447441), .lit (.int .u32 3049323471), .lit (.int .u32 3921009573), .lit (.int .u32 961987163), .lit (.int .u32 1508970993), .lit (.int .u32 2453635748), .lit (.int .u32 2870763221), .lit (.int .u32 3624381080), .lit (.int .u32 310598401), .lit (.int .u32 607225278), .lit (.int .u32 1426881987), .lit (.int .u32 1925078388), .lit (.int .u32 2162078206), .lit (.int .u32 2614888103), .lit (.int .u32 3248222580), .lit (.int .u32 3835390401), .lit (.int .u32 4022224774), .lit (.int .u32 264347078), .lit (.int .u32 604807628), .lit (.int .u32 770255983), .lit (.int .u32 1249150122), .lit (.int .u32 1555081692), .lit (.int .u32 1996064986), .lit (.int .u32 2554220882), .lit (.int .u32 2821834349), .lit (.int .u32 2952996808), .lit (.int .u32 3210313671), .lit (.int .u32 3336571891), .lit (.int .u32 3584528711), .lit (.int .u32 113926993), .lit (.int .u32 338241895), .lit (.int .u32 666307205), .lit (.int .u32 773529912), .lit (.int .u32 1294757372), .lit (.int .u32 1396182291), .lit (.int .u32 1695183700), .lit (.int .u32 1986661051), .lit (.int .u32 2177026350), .lit (.int .u32 2456956037), .lit (.int .u32 2730485921), .lit (.int .u32 2820302411), .lit (.int .u32 3259730800), .lit (.int .u32 3345764771), .lit (.int .u32 3516065817), .lit (.int .u32 3600352804), .lit (.int .u32 4094571909), .lit (.int .u32 275423344), .lit (.int .u32 430227734), .lit (.int .u32 506948616), .lit (.int .u32 659060556), .lit (.int .u32 883997877), .lit (.int .u32 958139571), .lit (.int .u32 1322822218), .lit (.int .u32 1537002063), .lit (.int .u32 1747873779), .lit (.int .u32 1955562222), .lit (.int .u32 2024104815), .lit (.int .u32 2227730452), .lit (.int .u32 2361852424), .lit (.int .u32 2428436474), .lit (.int .u32 2756734187), .lit (.int .u32 3204031479), .lit (.int .u32 3329325298)]
/-- One of Go's own tables, pinned by name: the form's constant. -/
def laid_unicode_utf8_first : DataW Unit := Go.Pinned.utf8First

/-- 'pharostop.TopThree': WHATEVER THE INPUT: true; the input reads as it did. -/
def topThreeSpec : ChangeSpec := { name := "topThree", fn := fun _ => fun
  | [d1, d2, d3] => { results := [.lit (.bool true)], args := [d1, d2, d3] }
  | _ => none }
def topThreeRow : OpenClaim := { program := "ytlelgbmbmajfmaagreatdoor", sum := "20252030944377b4a10d545b5fe9f0a8cd645e49b8e71240a783b583d6193515", func := "pharos/pharostop.TopThree", spec := "topThree", inPlace := ["internal/abi.NoEscape", "internal/bytealg.MakeNoZero", "math/bits.Sub64", "math/bits.Add64", "internal/bytealg.IndexByteString", "internal/bytealg.IndexString"], unfollowed := true, recurses := true, named := ["pharos/keccak.places", "pharos/keccak.turns", "pharos/keccak.constants", "pharos/sha.k", "unicode/utf8.first", "unicode/utf8.acceptRanges", "internal/bytealg.MaxLen"], plainKeys := false, apart := false, laid := [("unicode/utf8.acceptRanges", laid_unicode_utf8_acceptRanges), ("pharos/keccak.constants", laid_pharos_keccak_constants), ("pharos/keccak.turns", laid_pharos_keccak_turns), ("pharos/keccak.places", laid_pharos_keccak_places), ("pharos/sha.k", laid_pharos_sha_k), ("unicode/utf8.first", laid_unicode_utf8_first)] }
def TopThreeSaid : Prop := topThreeRow.holds Tryz.pinned (OpenSpec.ofChange topThreeSpec)

/-- ITS FALSE NEIGHBOUR: 'it returns false'. Refute it at one input. -/
def topThreeWrong : ChangeSpec := { name := "topThree", fn := fun _ => fun
  | [d1, d2, d3] => { results := [.lit (.bool false)], args := [d1, d2, d3] }
  | _ => none }
def TopThreeWrongFalsely : Prop := topThreeRow.holds Tryz.pinned (OpenSpec.ofChange topThreeWrong)

/-- 'pharoslaw20.EvmReckons': WHATEVER THE INPUT: true; the input reads as it did. -/
def evmReckonsSpec : ChangeSpec := { name := "evmReckons", fn := fun _ => fun
  | [d1, d2] => { results := [.lit (.bool true)], args := [d1, d2] }
  | _ => none }
def evmReckonsRow : OpenClaim := { program := "ytlelgbmbmajfmaagreatdoor", sum := "20252030944377b4a10d545b5fe9f0a8cd645e49b8e71240a783b583d6193515", func := "pharos/pharoslaw20.EvmReckons", spec := "evmReckons", inPlace := ["math/bits.Sub64", "math/bits.Add64", "internal/abi.NoEscape", "internal/bytealg.MakeNoZero", "internal/bytealg.IndexByteString", "internal/bytealg.IndexString"], unfollowed := true, recurses := true, named := ["pharos/sha.k", "pharos/keccak.places", "pharos/keccak.turns", "pharos/keccak.constants", "unicode/utf8.first", "unicode/utf8.acceptRanges", "internal/bytealg.MaxLen"], plainKeys := false, apart := false, laid := [("unicode/utf8.acceptRanges", laid_unicode_utf8_acceptRanges), ("pharos/keccak.constants", laid_pharos_keccak_constants), ("pharos/keccak.turns", laid_pharos_keccak_turns), ("pharos/keccak.places", laid_pharos_keccak_places), ("pharos/sha.k", laid_pharos_sha_k), ("unicode/utf8.first", laid_unicode_utf8_first)] }
def EvmReckonsSaid : Prop := evmReckonsRow.holds Tryz.pinned (OpenSpec.ofChange evmReckonsSpec)

/-- ITS FALSE NEIGHBOUR: 'it returns false'. Refute it at one input. -/
def evmReckonsWrong : ChangeSpec := { name := "evmReckons", fn := fun _ => fun
  | [d1, d2] => { results := [.lit (.bool false)], args := [d1, d2] }
  | _ => none }
def EvmReckonsWrongFalsely : Prop := evmReckonsRow.holds Tryz.pinned (OpenSpec.ofChange evmReckonsWrong)

/-- 'pharoslaw20.EvmNone': WHATEVER THE INPUT: true; the input reads as it did. -/
def evmNoneSpec : ChangeSpec := { name := "evmNone", fn := fun _ => fun
  | [d1, d2] => { results := [.lit (.bool true)], args := [d1, d2] }
  | _ => none }
def evmNoneRow : OpenClaim := { program := "ytlelgbmbmajfmaagreatdoor", sum := "20252030944377b4a10d545b5fe9f0a8cd645e49b8e71240a783b583d6193515", func := "pharos/pharoslaw20.EvmNone", spec := "evmNone", inPlace := ["math/bits.Sub64", "math/bits.Add64", "internal/abi.NoEscape", "internal/bytealg.MakeNoZero", "internal/bytealg.IndexByteString", "internal/bytealg.IndexString"], unfollowed := true, recurses := true, named := ["pharos/sha.k", "pharos/keccak.places", "pharos/keccak.turns", "pharos/keccak.constants", "unicode/utf8.first", "unicode/utf8.acceptRanges", "internal/bytealg.MaxLen"], plainKeys := false, apart := false, laid := [("unicode/utf8.acceptRanges", laid_unicode_utf8_acceptRanges), ("pharos/keccak.constants", laid_pharos_keccak_constants), ("pharos/keccak.turns", laid_pharos_keccak_turns), ("pharos/keccak.places", laid_pharos_keccak_places), ("pharos/sha.k", laid_pharos_sha_k), ("unicode/utf8.first", laid_unicode_utf8_first)] }
def EvmNoneSaid : Prop := evmNoneRow.holds Tryz.pinned (OpenSpec.ofChange evmNoneSpec)

/-- ITS FALSE NEIGHBOUR: 'it returns false'. Refute it at one input. -/
def evmNoneWrong : ChangeSpec := { name := "evmNone", fn := fun _ => fun
  | [d1, d2] => { results := [.lit (.bool false)], args := [d1, d2] }
  | _ => none }
def EvmNoneWrongFalsely : Prop := evmNoneRow.holds Tryz.pinned (OpenSpec.ofChange evmNoneWrong)

/-- 'pharoslaw20.EvmEchoes': WHATEVER THE INPUT: true; the input reads as it did. -/
def evmEchoesSpec : ChangeSpec := { name := "evmEchoes", fn := fun _ => fun
  | [d] => { results := [.lit (.bool true)], args := [d] }
  | _ => none }
def evmEchoesRow : OpenClaim := { program := "ytlelgbmbmajfmaagreatdoor", sum := "20252030944377b4a10d545b5fe9f0a8cd645e49b8e71240a783b583d6193515", func := "pharos/pharoslaw20.EvmEchoes", spec := "evmEchoes", inPlace := ["math/bits.Sub64", "math/bits.Add64", "internal/abi.NoEscape", "internal/bytealg.MakeNoZero", "internal/bytealg.IndexByteString", "internal/bytealg.IndexString"], unfollowed := true, recurses := true, named := ["pharos/sha.k", "pharos/keccak.places", "pharos/keccak.turns", "pharos/keccak.constants", "unicode/utf8.first", "unicode/utf8.acceptRanges", "internal/bytealg.MaxLen"], plainKeys := false, apart := false, laid := [("unicode/utf8.acceptRanges", laid_unicode_utf8_acceptRanges), ("pharos/keccak.constants", laid_pharos_keccak_constants), ("pharos/keccak.turns", laid_pharos_keccak_turns), ("pharos/keccak.places", laid_pharos_keccak_places), ("pharos/sha.k", laid_pharos_sha_k), ("unicode/utf8.first", laid_unicode_utf8_first)] }
def EvmEchoesSaid : Prop := evmEchoesRow.holds Tryz.pinned (OpenSpec.ofChange evmEchoesSpec)

/-- ITS FALSE NEIGHBOUR: 'it returns false'. Refute it at one input. -/
def evmEchoesWrong : ChangeSpec := { name := "evmEchoes", fn := fun _ => fun
  | [d] => { results := [.lit (.bool false)], args := [d] }
  | _ => none }
def EvmEchoesWrongFalsely : Prop := evmEchoesRow.holds Tryz.pinned (OpenSpec.ofChange evmEchoesWrong)

/-- 'pharoslaw20.EvmKeeps': WHATEVER THE INPUT: true; the input reads as it did. -/
def evmKeepsSpec : ChangeSpec := { name := "evmKeeps", fn := fun _ => fun
  | [d1, d2] => { results := [.lit (.bool true)], args := [d1, d2] }
  | _ => none }
def evmKeepsRow : OpenClaim := { program := "ytlelgbmbmajfmaagreatdoor", sum := "20252030944377b4a10d545b5fe9f0a8cd645e49b8e71240a783b583d6193515", func := "pharos/pharoslaw20.EvmKeeps", spec := "evmKeeps", inPlace := ["math/bits.Sub64", "math/bits.Add64", "internal/abi.NoEscape", "internal/bytealg.MakeNoZero", "internal/bytealg.IndexByteString", "internal/bytealg.IndexString"], unfollowed := true, recurses := true, named := ["pharos/sha.k", "pharos/keccak.places", "pharos/keccak.turns", "pharos/keccak.constants", "unicode/utf8.first", "unicode/utf8.acceptRanges", "internal/bytealg.MaxLen"], plainKeys := false, apart := false, laid := [("unicode/utf8.acceptRanges", laid_unicode_utf8_acceptRanges), ("pharos/keccak.constants", laid_pharos_keccak_constants), ("pharos/keccak.turns", laid_pharos_keccak_turns), ("pharos/keccak.places", laid_pharos_keccak_places), ("pharos/sha.k", laid_pharos_sha_k), ("unicode/utf8.first", laid_unicode_utf8_first)] }
def EvmKeepsSaid : Prop := evmKeepsRow.holds Tryz.pinned (OpenSpec.ofChange evmKeepsSpec)

/-- ITS FALSE NEIGHBOUR: 'it returns false'. Refute it at one input. -/
def evmKeepsWrong : ChangeSpec := { name := "evmKeeps", fn := fun _ => fun
  | [d1, d2] => { results := [.lit (.bool false)], args := [d1, d2] }
  | _ => none }
def EvmKeepsWrongFalsely : Prop := evmKeepsRow.holds Tryz.pinned (OpenSpec.ofChange evmKeepsWrong)

/-- 'pharoslaw20.EvmStops': WHATEVER THE INPUT: true; the input reads as it did. -/
def evmStopsSpec : ChangeSpec := { name := "evmStops", fn := fun _ => fun
  | [d1, d2, d3, d4, d5] => { results := [.lit (.bool true)], args := [d1, d2, d3, d4, d5] }
  | _ => none }
def evmStopsRow : OpenClaim := { program := "ytlelgbmbmajfmaagreatdoor", sum := "20252030944377b4a10d545b5fe9f0a8cd645e49b8e71240a783b583d6193515", func := "pharos/pharoslaw20.EvmStops", spec := "evmStops", inPlace := ["math/bits.Sub64", "math/bits.Add64", "internal/abi.NoEscape", "internal/bytealg.MakeNoZero", "internal/bytealg.IndexByteString", "internal/bytealg.IndexString"], unfollowed := true, recurses := true, named := ["pharos/sha.k", "pharos/keccak.places", "pharos/keccak.turns", "pharos/keccak.constants", "unicode/utf8.first", "unicode/utf8.acceptRanges", "internal/bytealg.MaxLen"], plainKeys := false, apart := false, laid := [("unicode/utf8.acceptRanges", laid_unicode_utf8_acceptRanges), ("pharos/keccak.constants", laid_pharos_keccak_constants), ("pharos/keccak.turns", laid_pharos_keccak_turns), ("pharos/keccak.places", laid_pharos_keccak_places), ("pharos/sha.k", laid_pharos_sha_k), ("unicode/utf8.first", laid_unicode_utf8_first)] }
def EvmStopsSaid : Prop := evmStopsRow.holds Tryz.pinned (OpenSpec.ofChange evmStopsSpec)

/-- ITS FALSE NEIGHBOUR: 'it returns false'. Refute it at one input. -/
def evmStopsWrong : ChangeSpec := { name := "evmStops", fn := fun _ => fun
  | [d1, d2, d3, d4, d5] => { results := [.lit (.bool false)], args := [d1, d2, d3, d4, d5] }
  | _ => none }
def EvmStopsWrongFalsely : Prop := evmStopsRow.holds Tryz.pinned (OpenSpec.ofChange evmStopsWrong)

/-- 'pharoslaw20.EvmLeaves': WHATEVER THE INPUT: true; the input reads as it did. -/
def evmLeavesSpec : ChangeSpec := { name := "evmLeaves", fn := fun _ => fun
  | [d1, d2, d3, d4, d5] => { results := [.lit (.bool true)], args := [d1, d2, d3, d4, d5] }
  | _ => none }
def evmLeavesRow : OpenClaim := { program := "ytlelgbmbmajfmaagreatdoor", sum := "20252030944377b4a10d545b5fe9f0a8cd645e49b8e71240a783b583d6193515", func := "pharos/pharoslaw20.EvmLeaves", spec := "evmLeaves", inPlace := ["math/bits.Sub64", "math/bits.Add64", "internal/abi.NoEscape", "internal/bytealg.MakeNoZero", "internal/bytealg.IndexByteString", "internal/bytealg.IndexString"], unfollowed := true, recurses := true, named := ["pharos/sha.k", "pharos/keccak.places", "pharos/keccak.turns", "pharos/keccak.constants", "unicode/utf8.first", "unicode/utf8.acceptRanges", "internal/bytealg.MaxLen"], plainKeys := false, apart := false, laid := [("unicode/utf8.acceptRanges", laid_unicode_utf8_acceptRanges), ("pharos/keccak.constants", laid_pharos_keccak_constants), ("pharos/keccak.turns", laid_pharos_keccak_turns), ("pharos/keccak.places", laid_pharos_keccak_places), ("pharos/sha.k", laid_pharos_sha_k), ("unicode/utf8.first", laid_unicode_utf8_first)] }
def EvmLeavesSaid : Prop := evmLeavesRow.holds Tryz.pinned (OpenSpec.ofChange evmLeavesSpec)

/-- ITS FALSE NEIGHBOUR: 'it returns false'. Refute it at one input. -/
def evmLeavesWrong : ChangeSpec := { name := "evmLeaves", fn := fun _ => fun
  | [d1, d2, d3, d4, d5] => { results := [.lit (.bool false)], args := [d1, d2, d3, d4, d5] }
  | _ => none }
def EvmLeavesWrongFalsely : Prop := evmLeavesRow.holds Tryz.pinned (OpenSpec.ofChange evmLeavesWrong)

/-- 'pharoslaw20.EvmStatic': WHATEVER THE INPUT: true; the input reads as it did. -/
def evmStaticSpec : ChangeSpec := { name := "evmStatic", fn := fun _ => fun
  | [d1, d2, d3, d4, d5] => { results := [.lit (.bool true)], args := [d1, d2, d3, d4, d5] }
  | _ => none }
def evmStaticRow : OpenClaim := { program := "ytlelgbmbmajfmaagreatdoor", sum := "20252030944377b4a10d545b5fe9f0a8cd645e49b8e71240a783b583d6193515", func := "pharos/pharoslaw20.EvmStatic", spec := "evmStatic", inPlace := ["math/bits.Sub64", "math/bits.Add64", "internal/abi.NoEscape", "internal/bytealg.MakeNoZero", "internal/bytealg.IndexByteString", "internal/bytealg.IndexString"], unfollowed := true, recurses := true, named := ["pharos/sha.k", "pharos/keccak.places", "pharos/keccak.turns", "pharos/keccak.constants", "unicode/utf8.first", "unicode/utf8.acceptRanges", "internal/bytealg.MaxLen"], plainKeys := false, apart := false, laid := [("unicode/utf8.acceptRanges", laid_unicode_utf8_acceptRanges), ("pharos/keccak.constants", laid_pharos_keccak_constants), ("pharos/keccak.turns", laid_pharos_keccak_turns), ("pharos/keccak.places", laid_pharos_keccak_places), ("pharos/sha.k", laid_pharos_sha_k), ("unicode/utf8.first", laid_unicode_utf8_first)] }
def EvmStaticSaid : Prop := evmStaticRow.holds Tryz.pinned (OpenSpec.ofChange evmStaticSpec)

/-- ITS FALSE NEIGHBOUR: 'it returns false'. Refute it at one input. -/
def evmStaticWrong : ChangeSpec := { name := "evmStatic", fn := fun _ => fun
  | [d1, d2, d3, d4, d5] => { results := [.lit (.bool false)], args := [d1, d2, d3, d4, d5] }
  | _ => none }
def EvmStaticWrongFalsely : Prop := evmStaticRow.holds Tryz.pinned (OpenSpec.ofChange evmStaticWrong)

/- THE SECOND FORM. 'bulk': how many values and letters a reading holds, each counted each time it is reached (what is shared counts as often as it is met; a slice's spare places count too). A statement '..UptoSaid' is the law's where the arguments, and the package variables that the reading takes, are together of bulk at most 1048576: NARROWER than '..Said'. Prove '..Said' where nothing that the law and all that it calls make is longer than what came in: it says more and counts as full. Else prove '..UptoSaid'. A law counts once. -/
mutual
def uptoBulk {H : Type} : DataW H → Nat
  | .lit (.string bytes) => bytes.length + 1
  | .lit _ => 1
  | .nil => 1
  | .ptr d => uptoBulk d + 1
  | .slice elems spare => uptoBulkAll elems + uptoBulkAll spare + 1
  | .agg parts => uptoBulkAll parts + 1
  | .iface _ d => uptoBulk d + 1
  | .map entries => uptoBulkEntries entries + 1
  | .held _ => 1
def uptoBulkAll {H : Type} : List (DataW H) → Nat
  | [] => 0
  | d :: r => uptoBulk d + uptoBulkAll r
def uptoBulkEntries {H : Type} : List (Lit × DataW H) → Nat
  | [] => 0
  | x :: r => uptoBulkEntry x + uptoBulkEntries r
def uptoBulkEntry {H : Type} : Lit × DataW H → Nat
  | (.string bytes, d) => bytes.length + uptoBulk d + 1
  | (_, d) => uptoBulk d + 1
 end
def uptoSmall : (H : Type) → List (DataW H) → Bool := fun _ ds => decide (uptoBulkAll ds ≤ 1048576)
def OpenSpec.upto (s : _root_.Go.ChangeSpec) : _root_.Go.OpenSpec := { _root_.Go.OpenSpec.ofChange s with cond := some uptoSmall }

/-- 'pharostop.TopThree', WHERE WHAT IT READS IS OF BULK AT MOST 1048576: true; the input reads as it did. -/
def topThreeUptoRow : OpenClaim := { program := "ytlelgbmbmajfmaagreatdoor", sum := "20252030944377b4a10d545b5fe9f0a8cd645e49b8e71240a783b583d6193515", func := "pharos/pharostop.TopThree", spec := "topThree", inPlace := ["internal/abi.NoEscape", "internal/bytealg.MakeNoZero", "math/bits.Sub64", "math/bits.Add64", "internal/bytealg.IndexByteString", "internal/bytealg.IndexString"], unfollowed := true, recurses := true, named := ["pharos/keccak.places", "pharos/keccak.turns", "pharos/keccak.constants", "pharos/sha.k", "unicode/utf8.first", "unicode/utf8.acceptRanges", "internal/bytealg.MaxLen"], plainKeys := false, apart := false, laid := [("unicode/utf8.acceptRanges", laid_unicode_utf8_acceptRanges), ("pharos/keccak.constants", laid_pharos_keccak_constants), ("pharos/keccak.turns", laid_pharos_keccak_turns), ("pharos/keccak.places", laid_pharos_keccak_places), ("pharos/sha.k", laid_pharos_sha_k), ("unicode/utf8.first", laid_unicode_utf8_first)], narrowed := true }
def TopThreeUptoSaid : Prop := topThreeUptoRow.holds Tryz.pinned (OpenSpec.upto topThreeSpec)

/-- 'pharoslaw20.EvmReckons', WHERE WHAT IT READS IS OF BULK AT MOST 1048576: true; the input reads as it did. -/
def evmReckonsUptoRow : OpenClaim := { program := "ytlelgbmbmajfmaagreatdoor", sum := "20252030944377b4a10d545b5fe9f0a8cd645e49b8e71240a783b583d6193515", func := "pharos/pharoslaw20.EvmReckons", spec := "evmReckons", inPlace := ["math/bits.Sub64", "math/bits.Add64", "internal/abi.NoEscape", "internal/bytealg.MakeNoZero", "internal/bytealg.IndexByteString", "internal/bytealg.IndexString"], unfollowed := true, recurses := true, named := ["pharos/sha.k", "pharos/keccak.places", "pharos/keccak.turns", "pharos/keccak.constants", "unicode/utf8.first", "unicode/utf8.acceptRanges", "internal/bytealg.MaxLen"], plainKeys := false, apart := false, laid := [("unicode/utf8.acceptRanges", laid_unicode_utf8_acceptRanges), ("pharos/keccak.constants", laid_pharos_keccak_constants), ("pharos/keccak.turns", laid_pharos_keccak_turns), ("pharos/keccak.places", laid_pharos_keccak_places), ("pharos/sha.k", laid_pharos_sha_k), ("unicode/utf8.first", laid_unicode_utf8_first)], narrowed := true }
def EvmReckonsUptoSaid : Prop := evmReckonsUptoRow.holds Tryz.pinned (OpenSpec.upto evmReckonsSpec)

/-- 'pharoslaw20.EvmNone', WHERE WHAT IT READS IS OF BULK AT MOST 1048576: true; the input reads as it did. -/
def evmNoneUptoRow : OpenClaim := { program := "ytlelgbmbmajfmaagreatdoor", sum := "20252030944377b4a10d545b5fe9f0a8cd645e49b8e71240a783b583d6193515", func := "pharos/pharoslaw20.EvmNone", spec := "evmNone", inPlace := ["math/bits.Sub64", "math/bits.Add64", "internal/abi.NoEscape", "internal/bytealg.MakeNoZero", "internal/bytealg.IndexByteString", "internal/bytealg.IndexString"], unfollowed := true, recurses := true, named := ["pharos/sha.k", "pharos/keccak.places", "pharos/keccak.turns", "pharos/keccak.constants", "unicode/utf8.first", "unicode/utf8.acceptRanges", "internal/bytealg.MaxLen"], plainKeys := false, apart := false, laid := [("unicode/utf8.acceptRanges", laid_unicode_utf8_acceptRanges), ("pharos/keccak.constants", laid_pharos_keccak_constants), ("pharos/keccak.turns", laid_pharos_keccak_turns), ("pharos/keccak.places", laid_pharos_keccak_places), ("pharos/sha.k", laid_pharos_sha_k), ("unicode/utf8.first", laid_unicode_utf8_first)], narrowed := true }
def EvmNoneUptoSaid : Prop := evmNoneUptoRow.holds Tryz.pinned (OpenSpec.upto evmNoneSpec)

/-- 'pharoslaw20.EvmEchoes', WHERE WHAT IT READS IS OF BULK AT MOST 1048576: true; the input reads as it did. -/
def evmEchoesUptoRow : OpenClaim := { program := "ytlelgbmbmajfmaagreatdoor", sum := "20252030944377b4a10d545b5fe9f0a8cd645e49b8e71240a783b583d6193515", func := "pharos/pharoslaw20.EvmEchoes", spec := "evmEchoes", inPlace := ["math/bits.Sub64", "math/bits.Add64", "internal/abi.NoEscape", "internal/bytealg.MakeNoZero", "internal/bytealg.IndexByteString", "internal/bytealg.IndexString"], unfollowed := true, recurses := true, named := ["pharos/sha.k", "pharos/keccak.places", "pharos/keccak.turns", "pharos/keccak.constants", "unicode/utf8.first", "unicode/utf8.acceptRanges", "internal/bytealg.MaxLen"], plainKeys := false, apart := false, laid := [("unicode/utf8.acceptRanges", laid_unicode_utf8_acceptRanges), ("pharos/keccak.constants", laid_pharos_keccak_constants), ("pharos/keccak.turns", laid_pharos_keccak_turns), ("pharos/keccak.places", laid_pharos_keccak_places), ("pharos/sha.k", laid_pharos_sha_k), ("unicode/utf8.first", laid_unicode_utf8_first)], narrowed := true }
def EvmEchoesUptoSaid : Prop := evmEchoesUptoRow.holds Tryz.pinned (OpenSpec.upto evmEchoesSpec)

/-- 'pharoslaw20.EvmKeeps', WHERE WHAT IT READS IS OF BULK AT MOST 1048576: true; the input reads as it did. -/
def evmKeepsUptoRow : OpenClaim := { program := "ytlelgbmbmajfmaagreatdoor", sum := "20252030944377b4a10d545b5fe9f0a8cd645e49b8e71240a783b583d6193515", func := "pharos/pharoslaw20.EvmKeeps", spec := "evmKeeps", inPlace := ["math/bits.Sub64", "math/bits.Add64", "internal/abi.NoEscape", "internal/bytealg.MakeNoZero", "internal/bytealg.IndexByteString", "internal/bytealg.IndexString"], unfollowed := true, recurses := true, named := ["pharos/sha.k", "pharos/keccak.places", "pharos/keccak.turns", "pharos/keccak.constants", "unicode/utf8.first", "unicode/utf8.acceptRanges", "internal/bytealg.MaxLen"], plainKeys := false, apart := false, laid := [("unicode/utf8.acceptRanges", laid_unicode_utf8_acceptRanges), ("pharos/keccak.constants", laid_pharos_keccak_constants), ("pharos/keccak.turns", laid_pharos_keccak_turns), ("pharos/keccak.places", laid_pharos_keccak_places), ("pharos/sha.k", laid_pharos_sha_k), ("unicode/utf8.first", laid_unicode_utf8_first)], narrowed := true }
def EvmKeepsUptoSaid : Prop := evmKeepsUptoRow.holds Tryz.pinned (OpenSpec.upto evmKeepsSpec)

/-- 'pharoslaw20.EvmStops', WHERE WHAT IT READS IS OF BULK AT MOST 1048576: true; the input reads as it did. -/
def evmStopsUptoRow : OpenClaim := { program := "ytlelgbmbmajfmaagreatdoor", sum := "20252030944377b4a10d545b5fe9f0a8cd645e49b8e71240a783b583d6193515", func := "pharos/pharoslaw20.EvmStops", spec := "evmStops", inPlace := ["math/bits.Sub64", "math/bits.Add64", "internal/abi.NoEscape", "internal/bytealg.MakeNoZero", "internal/bytealg.IndexByteString", "internal/bytealg.IndexString"], unfollowed := true, recurses := true, named := ["pharos/sha.k", "pharos/keccak.places", "pharos/keccak.turns", "pharos/keccak.constants", "unicode/utf8.first", "unicode/utf8.acceptRanges", "internal/bytealg.MaxLen"], plainKeys := false, apart := false, laid := [("unicode/utf8.acceptRanges", laid_unicode_utf8_acceptRanges), ("pharos/keccak.constants", laid_pharos_keccak_constants), ("pharos/keccak.turns", laid_pharos_keccak_turns), ("pharos/keccak.places", laid_pharos_keccak_places), ("pharos/sha.k", laid_pharos_sha_k), ("unicode/utf8.first", laid_unicode_utf8_first)], narrowed := true }
def EvmStopsUptoSaid : Prop := evmStopsUptoRow.holds Tryz.pinned (OpenSpec.upto evmStopsSpec)

/-- 'pharoslaw20.EvmLeaves', WHERE WHAT IT READS IS OF BULK AT MOST 1048576: true; the input reads as it did. -/
def evmLeavesUptoRow : OpenClaim := { program := "ytlelgbmbmajfmaagreatdoor", sum := "20252030944377b4a10d545b5fe9f0a8cd645e49b8e71240a783b583d6193515", func := "pharos/pharoslaw20.EvmLeaves", spec := "evmLeaves", inPlace := ["math/bits.Sub64", "math/bits.Add64", "internal/abi.NoEscape", "internal/bytealg.MakeNoZero", "internal/bytealg.IndexByteString", "internal/bytealg.IndexString"], unfollowed := true, recurses := true, named := ["pharos/sha.k", "pharos/keccak.places", "pharos/keccak.turns", "pharos/keccak.constants", "unicode/utf8.first", "unicode/utf8.acceptRanges", "internal/bytealg.MaxLen"], plainKeys := false, apart := false, laid := [("unicode/utf8.acceptRanges", laid_unicode_utf8_acceptRanges), ("pharos/keccak.constants", laid_pharos_keccak_constants), ("pharos/keccak.turns", laid_pharos_keccak_turns), ("pharos/keccak.places", laid_pharos_keccak_places), ("pharos/sha.k", laid_pharos_sha_k), ("unicode/utf8.first", laid_unicode_utf8_first)], narrowed := true }
def EvmLeavesUptoSaid : Prop := evmLeavesUptoRow.holds Tryz.pinned (OpenSpec.upto evmLeavesSpec)

/-- 'pharoslaw20.EvmStatic', WHERE WHAT IT READS IS OF BULK AT MOST 1048576: true; the input reads as it did. -/
def evmStaticUptoRow : OpenClaim := { program := "ytlelgbmbmajfmaagreatdoor", sum := "20252030944377b4a10d545b5fe9f0a8cd645e49b8e71240a783b583d6193515", func := "pharos/pharoslaw20.EvmStatic", spec := "evmStatic", inPlace := ["math/bits.Sub64", "math/bits.Add64", "internal/abi.NoEscape", "internal/bytealg.MakeNoZero", "internal/bytealg.IndexByteString", "internal/bytealg.IndexString"], unfollowed := true, recurses := true, named := ["pharos/sha.k", "pharos/keccak.places", "pharos/keccak.turns", "pharos/keccak.constants", "unicode/utf8.first", "unicode/utf8.acceptRanges", "internal/bytealg.MaxLen"], plainKeys := false, apart := false, laid := [("unicode/utf8.acceptRanges", laid_unicode_utf8_acceptRanges), ("pharos/keccak.constants", laid_pharos_keccak_constants), ("pharos/keccak.turns", laid_pharos_keccak_turns), ("pharos/keccak.places", laid_pharos_keccak_places), ("pharos/sha.k", laid_pharos_sha_k), ("unicode/utf8.first", laid_unicode_utf8_first)], narrowed := true }
def EvmStaticUptoSaid : Prop := evmStaticUptoRow.holds Tryz.pinned (OpenSpec.upto evmStaticSpec)

end Rows
end Go.Proofs.YtlelgbmbmajfmaaGreatDoor
