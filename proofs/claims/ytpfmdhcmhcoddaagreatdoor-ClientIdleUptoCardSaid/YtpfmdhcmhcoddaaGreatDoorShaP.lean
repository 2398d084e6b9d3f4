/- SHA-256 on plain lists: the words of a block, the rounds. No program is named. -/
import Derived.Test.YtpfmdhcmhcoddaaGreatDoorShaA
namespace Go.Proofs.YtpfmdhcmhcoddaaGreatDoor
open Go.RowKit

/-- bytes as a word, the highest ahead -/
def wfold (l : List UInt8) : UInt32 := l.foldl (fun x c => (x <<< 8) ||| c.toUInt32) 0
/-- a block's word, of its first i bytes -/
def part32 (s : List UInt8) (i j : Nat) : UInt32 := wfold (((s.take i).drop (4 * j)).take 4)
theorem part32_zero (s : List UInt8) (j : Nat) : part32 s 0 j = 0 := by simp [part32, wfold]
theorem wfold_snoc (l : List UInt8) (c : UInt8) : wfold (l ++ [c]) = (wfold l <<< 8) ||| c.toUInt32 := by simp [wfold]
theorem take_snoc' {s : List UInt8} {i : Nat} {c : UInt8} (hc : s[i]? = some c) : s.take (i + 1) = s.take i ++ [c] := by
  rw [List.take_add_one, hc]; rfl
theorem part32_at (s : List UInt8) (i : Nat) (c : UInt8) (hc : s[i]? = some c) : part32 s (i + 1) (i / 4) = (part32 s i (i / 4) <<< 8) ||| c.toUInt32 := by
  have hi := (List.getElem?_eq_some_iff.1 hc).1
  have e1 : ((s.take i).drop (4 * (i / 4))).length ≤ 3 := by rw [List.length_drop, List.length_take]; omega
  unfold part32
  rw [← wfold_snoc, take_snoc' hc, List.drop_append_of_le_length (by rw [List.length_take]; omega)]
  rw [List.take_of_length_le (l := (s.take i).drop (4 * (i / 4)) ++ [c]) (by rw [List.length_append]; simp only [List.length_singleton]; omega), List.take_of_length_le (l := (s.take i).drop (4 * (i / 4))) (by omega)]
theorem part32_other (s : List UInt8) (i j : Nat) (h : j ≠ i / 4) : part32 s (i + 1) j = part32 s i j := by
  unfold part32
  congr 1
  cases hc : s[i]? with
  | none =>
    have := List.getElem?_eq_none_iff.1 hc
    rw [List.take_of_length_le (l := s) (i := i + 1) (by omega), List.take_of_length_le (l := s) (i := i) this]
  | some c =>
    have hi := (List.getElem?_eq_some_iff.1 hc).1
    rw [take_snoc' hc]
    rcases Nat.lt_or_ge j (i / 4) with hj | hj
    · rw [List.drop_append_of_le_length (by rw [List.length_take]; omega), List.take_append_of_le_length (by rw [List.length_drop, List.length_take]; omega)]
    · have a1 : (s.take i ++ [c]).drop (4 * j) = [] := List.drop_eq_nil_of_le (by rw [List.length_append, List.length_take]; simp only [List.length_singleton]; omega)
      have a2 : (s.take i).drop (4 * j) = [] := List.drop_eq_nil_of_le (by rw [List.length_take]; omega)
      rw [a1, a2]
/-- a block's word -/
def word32 (s : List UInt8) (j : Nat) : UInt32 := wfold ((s.drop (4 * j)).take 4)
theorem part32_done (s : List UInt8) (j : Nat) (h : s.length = 64) : part32 s 64 j = word32 s j := by
  unfold part32 word32
  rw [List.take_of_length_le (l := s) (i := 64) (by omega)]
def sg0 (x : UInt32) : UInt32 := (rotr x 7 ^^^ rotr x 18) ^^^ (x >>> 3)
def sg1 (x : UInt32) : UInt32 := (rotr x 17 ^^^ rotr x 19) ^^^ (x >>> 10)
/-- the words that the rounds take -/
def wAt (s : List UInt8) (t : Nat) : UInt32 := if t < 16 then word32 s t else wAt s (t - 16) + wAt s (t - 7) + sg0 (wAt s (t - 15)) + sg1 (wAt s (t - 2))
termination_by t
decreasing_by all_goals omega
theorem wAt_low (s : List UInt8) (t : Nat) (h : t < 16) : wAt s t = word32 s t := by rw [wAt, if_pos h]
theorem wAt_high (s : List UInt8) (t : Nat) (h : 16 ≤ t) : wAt s t = wAt s (t - 16) + wAt s (t - 7) + sg0 (wAt s (t - 15)) + sg1 (wAt s (t - 2)) := by rw [wAt, if_neg (by omega)]
/-- eight words -/
structure St where
  (a b c d e f g h : UInt32)
/-- a round -/
def St.step (s : St) (k w : UInt32) : St :=
  ⟨(s.h + ((rotr s.e 6 ^^^ rotr s.e 11) ^^^ rotr s.e 25) + (s.g ^^^ (s.e &&& (s.f ^^^ s.g))) + k + w) + (((rotr s.a 2 ^^^ rotr s.a 13) ^^^ rotr s.a 22) + ((s.a &&& s.b) ||| (s.c &&& (s.a ||| s.b)))), s.a, s.b, s.c,
    s.d + (s.h + ((rotr s.e 6 ^^^ rotr s.e 11) ^^^ rotr s.e 25) + (s.g ^^^ (s.e &&& (s.f ^^^ s.g))) + k + w), s.e, s.f, s.g⟩
/-- the constants of the rounds -/
def ktab : List UInt32 := [1116352408, 1899447441, 3049323471, 3921009573, 961987163, 1508970993, 2453635748, 2870763221, 3624381080, 310598401, 607225278, 1426881987, 1925078388, 2162078206, 2614888103, 3248222580, 3835390401, 4022224774, 264347078, 604807628, 770255983, 1249150122, 1555081692, 1996064986, 2554220882, 2821834349, 2952996808, 3210313671, 3336571891, 3584528711, 113926993, 338241895, 666307205, 773529912, 1294757372, 1396182291, 1695183700, 1986661051, 2177026350, 2456956037, 2730485921, 2820302411, 3259730800, 3345764771, 3516065817, 3600352804, 4094571909, 275423344, 430227734, 506948616, 659060556, 883997877, 958139571, 1322822218, 1537002063, 1747873779, 1955562222, 2024104815, 2227730452, 2361852424, 2428436474, 2756734187, 3204031479, 3329325298]
/-- the constant of a round -/
def kAt (t : Nat) : UInt32 := ktab.getD t 0
/-- so many rounds -/
def rounds (blk : List UInt8) (s : St) : Nat → St
  | 0 => s
  | t + 1 => (rounds blk s t).step (kAt t) (wAt blk t)
/-- a block taken in -/
def St.take (s : St) (blk : List UInt8) : St :=
  let r := rounds blk s 64
  ⟨s.a + r.a, s.b + r.b, s.c + r.c, s.d + r.d, s.e + r.e, s.f + r.f, s.g + r.g, s.h + r.h⟩
def St.list (s : St) : List UInt32 := [s.a, s.b, s.c, s.d, s.e, s.f, s.g, s.h]
end Go.Proofs.YtpfmdhcmhcoddaaGreatDoor
