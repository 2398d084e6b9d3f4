/-
  NARROWER THAN 'FOR EVERY INPUT', by the rows' own cells (each row's printed sentence says how): ClientSteps: laid · ClientSound: laid · ClientNone: laid · ClientIdle: laid.
  DERIVED. THE GIVEN ROWS OF THIS SEAT. 4 by the template 'for every input the law returns true; each argument reads behind the call as it read before'; 0 by the template 'total and deterministic' (their statements: YtpfmdhcmhcoddaaGreatDoorTotals.lean).
  GIVEN WITH THE SEED: the statements are not yours to turn. If you find one false, say at which input.
  Laid BY PROGRAM, IN A SANDBOX (cutbox-rows.mjs): the forced cells as the released guide's own fill.sh prints them over the translation 5e7fa838e79a0d7c… (all of the seat's roots in one cut). By AI agents, Wed Nov 11 2026. No macro, syntax, notation, axiom, sorry.
-/
import Derived.Test.YtpfmdhcmhcoddaaGreatDoorChecked
import GoSem.PinnedTables
import GoSem.Claim
import GoSem.ClaimJoined
import GoSem.ClaimMapViews
import Derived.JoinedTies
import Derived.KernelRfl
namespace Go.Proofs.YtpfmdhcmhcoddaaGreatDoor
/- THE CELL 'sum', in the pinned program and in every row, IS THE sha256 OF THE DUMP (.gsa) THAT YtpfmdhcmhcoddaaGreatDoorProg.lean LOADS. Nothing in Lean hashes anything: it is a label: what it is worth is what the hold of that sum in a sandbox is worth. -/
noncomputable def Tryz.pinned : Pinned := { name := "ytpfmdhcmhcoddaagreatdoor", sum := "5e7fa838e79a0d7c91e7400f071cdad87d8835caea07cf4a6449650456017538", checked := Tryz.checked }
namespace Rows
def none {H : Type} : Left H := { results := [], args := [] }

/- WHAT THE LISTED PACKAGE-LEVEL VARIABLES READ AS WHEN THE CALL BEGINS. Each datum BY PROGRAM (the guide's laid-datum.mjs) off the statement by which the dump's own 'gosem.cut.vars' lays the variable. In a bare row this is a premise. The card (YtpfmdhcmhcoddaaGreatDoorCards.lean) ties it to the program's text. -/
def laid_pharos_sha_k {H : Type} : DataW H := .agg [.lit (.int .u32 1116352408), .lit (.int .u32 1899447441), .lit (.int .u32 3049323471), .lit (.int .u32 3921009573), .lit (.int .u32 961987163), .lit (.int .u32 1508970993), .lit (.int .u32 2453635748), .lit (.int .u32 2870763221), .lit (.int .u32 3624381080), .lit (.int .u32 310598401), .lit (.int .u32 607225278), .lit (.int .u32 1426881987), .lit (.int .u32 1925078388), .lit (.int .u32 2162078206), .lit (.int .u32 2614888103), .lit (.int .u32 3248222580), .lit (.int .u32 3835390401), .lit (.int .u32 4022224774), .lit (.int .u32 264347078), .lit (.int .u32 604807628), .lit (.int .u32 770255983), .lit (.int .u32 1249150122), .lit (.int .u32 1555081692), .lit (.int .u32 1996064986), .lit (.int .u32 2554220882), .lit (.int .u32 2821834349), .lit (.int .u32 2952996808), .lit (.int .u32 3210313671), .lit (.int .u32 3336571891), .lit (.int .u32 3584528711), .lit (.int .u32 113926993), .lit (.int .u32 338241895), .lit (.int .u32 666307205), .lit (.int .u32 773529912), .lit (.int .u32 1294757372), .lit (.int .u32 1396182291), .lit (.int .u32 1695183700), .lit (.int .u32 1986661051), .lit (.int .u32 2177026350), .lit (.int .u32 2456956037), .lit (.int .u32 2730485921), .lit (.int .u32 2820302411), .lit (.int .u32 3259730800), .lit (.int .u32 3345764771), .lit (.int .u32 3516065817), .lit (.int .u32 3600352804), .lit (.int .u32 4094571909), .lit (.int .u32 275423344), .lit (.int .u32 430227734), .lit (.int .u32 506948616), .lit (.int .u32 659060556), .lit (.int .u32 883997877), .lit (.int .u32 958139571), .lit (.int .u32 1322822218), .lit (.int .u32 1537002063), .lit (.int .u32 1747873779), .lit (.int .u32 1955562222), .lit (.int .u32 2024104815), .lit (.int .u32 2227730452), .lit (.int .u32 2361852424), .lit (.int .u32 2428436474), .lit (.int .u32 2756734187), .lit (.int .u32 3204031479), .lit (.int .u32 3329325298)]
def laid_unicode_utf8_acceptRanges {H : Type} : DataW H := .agg [.agg [.lit (.int .u8 128), .lit (.int .u8 191)], .agg [.lit (.int .u8 160), .lit (.int .u8 191)], .agg [.lit (.int .u8 128), .lit (.int .u8 159)], .agg [.lit (.int .u8 144), .lit (.int .u8 191)], .agg [.lit (.int .u8 128), .lit (.int .u8 143)], .agg [.lit (.int .u8 0), .lit (.int .u8 0)], .agg [.lit (.int .u8 0), .lit (.int .u8 0)], .agg [.lit (.int .u8 0), .lit (.int .u8 0)], .agg [.lit (.int .u8 0), .lit (.int .u8 0)], .agg [.lit (.int .u8 0), .lit (.int .u8 0)], .agg [.lit (.int .u8 0), .lit (.int .u8 0)], .agg [.lit (.int .u8 0), .lit (.int .u8 0)], .agg [.lit (.int .u8 0), .lit (.int .u8 0)], .agg [.lit (.int .u8 0), .lit (.int .u8 0)], .agg [.lit (.int .u8 0), .lit (.int .u8 0)], .agg [.lit (.int .u8 0), .lit (.int .u8 0)]]
def laid_pharos_keccak_constants {H : Type} : DataW H := .agg [.lit (.int .u64 1), .lit (.int .u64 32898), .lit (.int .u64 9223372036854808714), .lit (.int .u64 9223372039002292224), .lit (.int .u64 32907), .lit (.int .u64 2147483649), .lit (.int .u64 9223372039002292353), .lit (.int .u64 9223372036854808585), .lit (.int .u64 138), .lit (.int .u64 136), .lit (.int .u64 2147516425), .lit (.int .u64 2147483658), .lit (.int .u64 2147516555), .lit (.int .u64 9223372036854775947), .lit (.int .u64 9223372036854808713), .lit (.int .u64 9223372036854808579), .lit (.int .u64 9223372036854808578), .lit (.int .u64 9223372036854775936), .lit (.int .u64 32778), .lit (.int .u64 9223372039002259466), .lit (.int .u64 9223372039002292353), .lit (.int .u64 9223372036854808704), .lit (.int .u64 2147483649), .lit (.int .u64 9223372039002292232)]
def laid_pharos_keccak_turns {H : Type} : DataW H := .agg [.lit (.int .i64 1), .lit (.int .i64 3), .lit (.int .i64 6), .lit (.int .i64 10), .lit (.int .i64 15), .lit (.int .i64 21), .lit (.int .i64 28), .lit (.int .i64 36), .lit (.int .i64 45), .lit (.int .i64 55), .lit (.int .i64 2), .lit (.int .i64 14), .lit (.int .i64 27), .lit (.int .i64 41), .lit (.int .i64 56), .lit (.int .i64 8), .lit (.int .i64 25), .lit (.int .i64 43), .lit (.int .i64 62), .lit (.int .i64 18), .lit (.int .i64 39), .lit (.int .i64 61), .lit (.int .i64 20), .lit (.int .i64 44)]
def laid_pharos_keccak_places {H : Type} : DataW H := .agg [.lit (.int .i64 10), .lit (.int .i64 7), .lit (.int .i64 11), .lit (.int .i64 17), .lit (.int .i64 18), .lit (.int .i64 3), .lit (.int .i64 5), .lit (.int .i64 16), .lit (.int .i64 8), .lit (.int .i64 21), .lit (.int .i64 24), .lit (.int .i64 4), .lit (.int .i64 15), .lit (.int .i64 23), .lit (.int .i64 19), .lit (.int .i64 13), .lit (.int .i64 12), .lit (.int .i64 2), .lit (.int .i64 20), .lit (.int .i64 14), .lit (.int .i64 22), .lit (.int .i64 9), .lit (.int .i64 6), .lit (.int .i64 1)]
/-- One of Go's own tables, pinned by name: the form's constant. -/
def laid_unicode_utf8_first : DataW Unit := Go.Pinned.utf8First

/-- 'pharoslaw22.ClientSteps': WHATEVER THE INPUT: true; the input reads as it did. -/
def clientStepsSpec : ChangeSpec := { name := "clientSteps", fn := fun _ => fun
  | [d1, d2] => { results := [.lit (.bool true)], args := [d1, d2] }
  | _ => none }
def clientStepsRow : OpenClaim := { program := "ytpfmdhcmhcoddaagreatdoor", sum := "5e7fa838e79a0d7c91e7400f071cdad87d8835caea07cf4a6449650456017538", func := "pharos/pharoslaw22.ClientSteps", spec := "clientSteps", inPlace := ["internal/abi.NoEscape", "internal/bytealg.MakeNoZero"], unfollowed := true, recurses := true, named := ["pharos/sha.k"], plainKeys := false, apart := false, laid := [("pharos/sha.k", laid_pharos_sha_k)] }
def ClientStepsSaid : Prop := clientStepsRow.holds Tryz.pinned (OpenSpec.ofChange clientStepsSpec)

/-- ITS FALSE NEIGHBOUR: 'it returns false'. Refute it at one input. -/
def clientStepsWrong : ChangeSpec := { name := "clientSteps", fn := fun _ => fun
  | [d1, d2] => { results := [.lit (.bool false)], args := [d1, d2] }
  | _ => none }
def ClientStepsWrongFalsely : Prop := clientStepsRow.holds Tryz.pinned (OpenSpec.ofChange clientStepsWrong)

/-- 'pharoslaw22.ClientSound': WHATEVER THE INPUT: true; the input reads as it did. -/
def clientSoundSpec : ChangeSpec := { name := "clientSound", fn := fun _ => fun
  | [d1, d2, d3, d4, d5, d6] => { results := [.lit (.bool true)], args := [d1, d2, d3, d4, d5, d6] }
  | _ => none }
def clientSoundRow : OpenClaim := { program := "ytpfmdhcmhcoddaagreatdoor", sum := "5e7fa838e79a0d7c91e7400f071cdad87d8835caea07cf4a6449650456017538", func := "pharos/pharoslaw22.ClientSound", spec := "clientSound", inPlace := ["internal/abi.NoEscape", "internal/bytealg.MakeNoZero", "internal/bytealg.IndexByteString", "internal/bytealg.IndexString"], unfollowed := true, recurses := true, named := ["pharos/sha.k", "unicode/utf8.first", "unicode/utf8.acceptRanges", "pharos/keccak.places", "pharos/keccak.turns", "pharos/keccak.constants", "internal/bytealg.MaxLen"], plainKeys := false, apart := false, laid := [("unicode/utf8.acceptRanges", laid_unicode_utf8_acceptRanges), ("pharos/keccak.constants", laid_pharos_keccak_constants), ("pharos/keccak.turns", laid_pharos_keccak_turns), ("pharos/keccak.places", laid_pharos_keccak_places), ("pharos/sha.k", laid_pharos_sha_k), ("unicode/utf8.first", laid_unicode_utf8_first)] }
def ClientSoundSaid : Prop := clientSoundRow.holds Tryz.pinned (OpenSpec.ofChange clientSoundSpec)

/-- ITS FALSE NEIGHBOUR: 'it returns false'. Refute it at one input. -/
def clientSoundWrong : ChangeSpec := { name := "clientSound", fn := fun _ => fun
  | [d1, d2, d3, d4, d5, d6] => { results := [.lit (.bool false)], args := [d1, d2, d3, d4, d5, d6] }
  | _ => none }
def ClientSoundWrongFalsely : Prop := clientSoundRow.holds Tryz.pinned (OpenSpec.ofChange clientSoundWrong)

/-- 'pharoslaw22.ClientNone': WHATEVER THE INPUT: true; the input reads as it did. -/
def clientNoneSpec : ChangeSpec := { name := "clientNone", fn := fun _ => fun
  | [d1, d2] => { results := [.lit (.bool true)], args := [d1, d2] }
  | _ => none }
def clientNoneRow : OpenClaim := { program := "ytpfmdhcmhcoddaagreatdoor", sum := "5e7fa838e79a0d7c91e7400f071cdad87d8835caea07cf4a6449650456017538", func := "pharos/pharoslaw22.ClientNone", spec := "clientNone", inPlace := ["internal/abi.NoEscape", "internal/bytealg.MakeNoZero", "internal/bytealg.IndexByteString", "internal/bytealg.IndexString", "internal/bytealg.CountString", "math/bits.Sub64", "math/bits.Add64"], unfollowed := true, recurses := true, named := ["pharos/sha.k", "pharos/keccak.places", "pharos/keccak.turns", "pharos/keccak.constants", "unicode/utf8.first", "unicode/utf8.acceptRanges", "internal/bytealg.MaxLen"], plainKeys := false, apart := false, laid := [("unicode/utf8.acceptRanges", laid_unicode_utf8_acceptRanges), ("pharos/keccak.constants", laid_pharos_keccak_constants), ("pharos/keccak.turns", laid_pharos_keccak_turns), ("pharos/keccak.places", laid_pharos_keccak_places), ("pharos/sha.k", laid_pharos_sha_k), ("unicode/utf8.first", laid_unicode_utf8_first)] }
def ClientNoneSaid : Prop := clientNoneRow.holds Tryz.pinned (OpenSpec.ofChange clientNoneSpec)

/-- ITS FALSE NEIGHBOUR: 'it returns false'. Refute it at one input. -/
def clientNoneWrong : ChangeSpec := { name := "clientNone", fn := fun _ => fun
  | [d1, d2] => { results := [.lit (.bool false)], args := [d1, d2] }
  | _ => none }
def ClientNoneWrongFalsely : Prop := clientNoneRow.holds Tryz.pinned (OpenSpec.ofChange clientNoneWrong)

/-- 'pharoslaw22.ClientIdle': WHATEVER THE INPUT: true; the input reads as it did. -/
def clientIdleSpec : ChangeSpec := { name := "clientIdle", fn := fun _ => fun
  | [d1, d2, d3, d4] => { results := [.lit (.bool true)], args := [d1, d2, d3, d4] }
  | _ => none }
def clientIdleRow : OpenClaim := { program := "ytpfmdhcmhcoddaagreatdoor", sum := "5e7fa838e79a0d7c91e7400f071cdad87d8835caea07cf4a6449650456017538", func := "pharos/pharoslaw22.ClientIdle", spec := "clientIdle", inPlace := ["internal/abi.NoEscape", "internal/bytealg.MakeNoZero", "internal/bytealg.IndexByteString", "internal/bytealg.IndexString", "internal/bytealg.CountString", "math/bits.Sub64", "math/bits.Add64"], unfollowed := true, recurses := true, named := ["pharos/sha.k", "pharos/keccak.places", "pharos/keccak.turns", "pharos/keccak.constants", "unicode/utf8.first", "unicode/utf8.acceptRanges", "internal/bytealg.MaxLen"], plainKeys := false, apart := false, laid := [("unicode/utf8.acceptRanges", laid_unicode_utf8_acceptRanges), ("pharos/keccak.constants", laid_pharos_keccak_constants), ("pharos/keccak.turns", laid_pharos_keccak_turns), ("pharos/keccak.places", laid_pharos_keccak_places), ("pharos/sha.k", laid_pharos_sha_k), ("unicode/utf8.first", laid_unicode_utf8_first)] }
def ClientIdleSaid : Prop := clientIdleRow.holds Tryz.pinned (OpenSpec.ofChange clientIdleSpec)

/-- ITS FALSE NEIGHBOUR: 'it returns false'. Refute it at one input. -/
def clientIdleWrong : ChangeSpec := { name := "clientIdle", fn := fun _ => fun
  | [d1, d2, d3, d4] => { results := [.lit (.bool false)], args := [d1, d2, d3, d4] }
  | _ => none }
def ClientIdleWrongFalsely : Prop := clientIdleRow.holds Tryz.pinned (OpenSpec.ofChange clientIdleWrong)

/- THE SECOND FORM. 'bulk': how many values and letters a reading holds, each counted each time it is reached (what is shared counts as often as it is met; a slice's spare places count too). A statement '..UptoSaid' is the law's where the arguments, and the package variables that the reading takes, are together of bulk at most 1048576: NARROWER than '..Said'. Prove '..Said' where nothing that the law and all that it calls make is longer than what came in: it says more and counts as full. Else prove '..UptoSaid'. A law counts once. -/
mutual
def uptoBulk {H : Type} : DataW H → Nat
  | .lit (.string bytes) => bytes.length + 1
  | .lit _ => 1
  | .nil => 1
  | .ptr d => uptoBulk d + 1
  | .slice elems spare => uptoBulkAll elems + uptoBulkAll spare + 1
  | .agg parts => uptoBulkAll parts + 1
  | .iface _ d => uptoBulk d + 1
  | .map entries => uptoBulkEntries entries + 1
  | .held _ => 1
def uptoBulkAll {H : Type} : List (DataW H) → Nat
  | [] => 0
  | d :: r => uptoBulk d + uptoBulkAll r
def uptoBulkEntries {H : Type} : List (Lit × DataW H) → Nat
  | [] => 0
  | x :: r => uptoBulkEntry x + uptoBulkEntries r
def uptoBulkEntry {H : Type} : Lit × DataW H → Nat
  | (.string bytes, d) => bytes.length + uptoBulk d + 1
  | (_, d) => uptoBulk d + 1
 end
def uptoSmall : (H : Type) → List (DataW H) → Bool := fun _ ds => decide (uptoBulkAll ds ≤ 1048576)
def OpenSpec.upto (s : _root_.Go.ChangeSpec) : _root_.Go.OpenSpec := { _root_.Go.OpenSpec.ofChange s with cond := some uptoSmall }

/-- 'pharoslaw22.ClientSteps', WHERE WHAT IT READS IS OF BULK AT MOST 1048576: true; the input reads as it did. -/
def clientStepsUptoRow : OpenClaim := { program := "ytpfmdhcmhcoddaagreatdoor", sum := "5e7fa838e79a0d7c91e7400f071cdad87d8835caea07cf4a6449650456017538", func := "pharos/pharoslaw22.ClientSteps", spec := "clientSteps", inPlace := ["internal/abi.NoEscape", "internal/bytealg.MakeNoZero"], unfollowed := true, recurses := true, named := ["pharos/sha.k"], plainKeys := false, apart := false, laid := [("pharos/sha.k", laid_pharos_sha_k)], narrowed := true }
def ClientStepsUptoSaid : Prop := clientStepsUptoRow.holds Tryz.pinned (OpenSpec.upto clientStepsSpec)

/-- 'pharoslaw22.ClientSound', WHERE WHAT IT READS IS OF BULK AT MOST 1048576: true; the input reads as it did. -/
def clientSoundUptoRow : OpenClaim := { program := "ytpfmdhcmhcoddaagreatdoor", sum := "5e7fa838e79a0d7c91e7400f071cdad87d8835caea07cf4a6449650456017538", func := "pharos/pharoslaw22.ClientSound", spec := "clientSound", inPlace := ["internal/abi.NoEscape", "internal/bytealg.MakeNoZero", "internal/bytealg.IndexByteString", "internal/bytealg.IndexString"], unfollowed := true, recurses := true, named := ["pharos/sha.k", "unicode/utf8.first", "unicode/utf8.acceptRanges", "pharos/keccak.places", "pharos/keccak.turns", "pharos/keccak.constants", "internal/bytealg.MaxLen"], plainKeys := false, apart := false, laid := [("unicode/utf8.acceptRanges", laid_unicode_utf8_acceptRanges), ("pharos/keccak.constants", laid_pharos_keccak_constants), ("pharos/keccak.turns", laid_pharos_keccak_turns), ("pharos/keccak.places", laid_pharos_keccak_places), ("pharos/sha.k", laid_pharos_sha_k), ("unicode/utf8.first", laid_unicode_utf8_first)], narrowed := true }
def ClientSoundUptoSaid : Prop := clientSoundUptoRow.holds Tryz.pinned (OpenSpec.upto clientSoundSpec)

/-- 'pharoslaw22.ClientNone', WHERE WHAT IT READS IS OF BULK AT MOST 1048576: true; the input reads as it did. -/
def clientNoneUptoRow : OpenClaim := { program := "ytpfmdhcmhcoddaagreatdoor", sum := "5e7fa838e79a0d7c91e7400f071cdad87d8835caea07cf4a6449650456017538", func := "pharos/pharoslaw22.ClientNone", spec := "clientNone", inPlace := ["internal/abi.NoEscape", "internal/bytealg.MakeNoZero", "internal/bytealg.IndexByteString", "internal/bytealg.IndexString", "internal/bytealg.CountString", "math/bits.Sub64", "math/bits.Add64"], unfollowed := true, recurses := true, named := ["pharos/sha.k", "pharos/keccak.places", "pharos/keccak.turns", "pharos/keccak.constants", "unicode/utf8.first", "unicode/utf8.acceptRanges", "internal/bytealg.MaxLen"], plainKeys := false, apart := false, laid := [("unicode/utf8.acceptRanges", laid_unicode_utf8_acceptRanges), ("pharos/keccak.constants", laid_pharos_keccak_constants), ("pharos/keccak.turns", laid_pharos_keccak_turns), ("pharos/keccak.places", laid_pharos_keccak_places), ("pharos/sha.k", laid_pharos_sha_k), ("unicode/utf8.first", laid_unicode_utf8_first)], narrowed := true }
def ClientNoneUptoSaid : Prop := clientNoneUptoRow.holds Tryz.pinned (OpenSpec.upto clientNoneSpec)

/-- 'pharoslaw22.ClientIdle', WHERE WHAT IT READS IS OF BULK AT MOST 1048576: true; the input reads as it did. -/
def clientIdleUptoRow : OpenClaim := { program := "ytpfmdhcmhcoddaagreatdoor", sum := "5e7fa838e79a0d7c91e7400f071cdad87d8835caea07cf4a6449650456017538", func := "pharos/pharoslaw22.ClientIdle", spec := "clientIdle", inPlace := ["internal/abi.NoEscape", "internal/bytealg.MakeNoZero", "internal/bytealg.IndexByteString", "internal/bytealg.IndexString", "internal/bytealg.CountString", "math/bits.Sub64", "math/bits.Add64"], unfollowed := true, recurses := true, named := ["pharos/sha.k", "pharos/keccak.places", "pharos/keccak.turns", "pharos/keccak.constants", "unicode/utf8.first", "unicode/utf8.acceptRanges", "internal/bytealg.MaxLen"], plainKeys := false, apart := false, laid := [("unicode/utf8.acceptRanges", laid_unicode_utf8_acceptRanges), ("pharos/keccak.constants", laid_pharos_keccak_constants), ("pharos/keccak.turns", laid_pharos_keccak_turns), ("pharos/keccak.places", laid_pharos_keccak_places), ("pharos/sha.k", laid_pharos_sha_k), ("unicode/utf8.first", laid_unicode_utf8_first)], narrowed := true }
def ClientIdleUptoSaid : Prop := clientIdleUptoRow.holds Tryz.pinned (OpenSpec.upto clientIdleSpec)

end Rows
end Go.Proofs.YtpfmdhcmhcoddaaGreatDoor
