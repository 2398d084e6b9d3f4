/- Plain words of 256 bits: a number below 256 ^ 32 by its four limbs of 64 bits, and its bytes. No program is named. -/
import Derived.Test.YtmjblnhnadffmaaDoorPlain
namespace Go.Proofs.YtmjblnhnadffmaaDoor
open Go.RowKit

/-- a limb of 64 bits -/
def limb (v k : Nat) : Nat := v / 256 ^ (8 * k) % 256 ^ 8
theorem limb_lt (v k : Nat) : limb v k < 18446744073709551616 := Nat.mod_lt _ (by decide)
/-- a word as a value -/
def wordV (v : Nat) : Value := .agg #[.int .u64 (limb v 0), .int .u64 (limb v 1), .int .u64 (limb v 2), .int .u64 (limb v 3)]
theorem wordV_zero : wordV 0 = .agg #[.int .u64 0, .int .u64 0, .int .u64 0, .int .u64 0] := rfl

/-- the word of four limbs -/
def ofLimbs (a b c d : Nat) : Nat := a + b * 256 ^ 8 + c * 256 ^ 16 + d * 256 ^ 24
theorem p8 : (256 : Nat) ^ 8 = 18446744073709551616 := by decide
theorem p16 : (256 : Nat) ^ 16 = 340282366920938463463374607431768211456 := by decide
theorem p24 : (256 : Nat) ^ 24 = 6277101735386680763835789423207666416102355444464034512896 := by decide
theorem p32 : (256 : Nat) ^ 32 = 115792089237316195423570985008687907853269984665640564039457584007913129639936 := by decide
theorem ofLimbs_lt {a b c d : Nat} (ha : a < 18446744073709551616) (hb : b < 18446744073709551616) (hc : c < 18446744073709551616) (hd : d < 18446744073709551616) : ofLimbs a b c d < 256 ^ 32 := by
  unfold ofLimbs; rw [p8, p16, p24, p32]; omega
theorem limb_ofLimbs {a b c d : Nat} (ha : a < 18446744073709551616) (hb : b < 18446744073709551616) (hc : c < 18446744073709551616) (hd : d < 18446744073709551616) :
    limb (ofLimbs a b c d) 0 = a ∧ limb (ofLimbs a b c d) 1 = b ∧ limb (ofLimbs a b c d) 2 = c ∧ limb (ofLimbs a b c d) 3 = d := by
  unfold limb ofLimbs
  simp only [Nat.mul_zero, Nat.pow_zero, Nat.div_one, Nat.mul_one, Nat.reduceMul, p8, p16, p24]
  refine ⟨?_, ?_, ?_, ?_⟩ <;> omega
theorem wordV_ofLimbs {a b c d : Nat} (ha : a < 18446744073709551616) (hb : b < 18446744073709551616) (hc : c < 18446744073709551616) (hd : d < 18446744073709551616) :
    wordV (ofLimbs a b c d) = .agg #[.int .u64 a, .int .u64 b, .int .u64 c, .int .u64 d] := by
  obtain ⟨h0, h1, h2, h3⟩ := limb_ofLimbs ha hb hc hd
  unfold wordV; rw [h0, h1, h2, h3]
theorem ofLimbs_limb {v : Nat} (h : v < 256 ^ 32) : ofLimbs (limb v 0) (limb v 1) (limb v 2) (limb v 3) = v := by
  unfold limb ofLimbs
  rw [p32] at h
  simp only [Nat.mul_zero, Nat.pow_zero, Nat.div_one, Nat.mul_one, Nat.reduceMul, p8, p16, p24]
  omega
theorem wordV_inj {v u : Nat} (hv : v < 256 ^ 32) (hu : u < 256 ^ 32) (h : wordV v = wordV u) : v = u := by
  unfold wordV at h
  simp only [Value.agg.injEq, Array.mk.injEq, List.cons.injEq, Value.int.injEq, true_and, and_true] at h
  obtain ⟨h0, h1, h2, h3⟩ := h
  rw [← ofLimbs_limb hv, ← ofLimbs_limb hu, Int.ofNat.inj h0, Int.ofNat.inj h1, Int.ofNat.inj h2, Int.ofNat.inj h3]

/-- one more byte ahead: the limbs -/
theorem limb_same {v b n k : Nat} (hv : v < 256 ^ n) (hb : b < 256) (h : k ≠ n / 8) : limb (b * 256 ^ n + v) k = limb v k := by
  unfold limb
  rcases Nat.lt_or_ge k (n / 8) with h1 | h1
  · obtain ⟨m, hm⟩ : ∃ m, n = 8 * k + (m + 8) := ⟨n - 8 * k - 8, by omega⟩
    rw [hm, Nat.pow_add, ← Nat.mul_assoc, Nat.mul_comm b, Nat.mul_assoc, Nat.mul_add_div (Nat.pow_pos (by decide)), Nat.pow_add, ← Nat.mul_assoc, Nat.add_comm, Nat.mul_comm _ (256 ^ 8), Nat.add_mul_mod_self_left]
  · have e : ∀ x, x < 256 ^ (n + 1) → x / 256 ^ (8 * k) = 0 := fun x hx => Nat.div_eq_of_lt (Nat.lt_of_lt_of_le hx (Nat.pow_le_pow_right (by decide) (by omega)))
    rw [e, e]
    · exact Nat.lt_of_lt_of_le hv (Nat.pow_le_pow_right (by decide) (by omega))
    · rw [Nat.pow_succ]
      have : b * 256 ^ n ≤ 255 * 256 ^ n := Nat.mul_le_mul_right _ (by omega)
      omega
theorem limb_next {v b k r : Nat} (hv : v < 256 ^ (8 * k + r)) (hb : b < 256) (hr : r < 8) : limb (b * 256 ^ (8 * k + r) + v) k = limb v k + b * 256 ^ r ∧ limb v k < 256 ^ r := by
  unfold limb
  have h1 : v / 256 ^ (8 * k) < 256 ^ r := by
    rw [Nat.div_lt_iff_lt_mul (Nat.pow_pos (by decide)), ← Nat.pow_add, Nat.add_comm r]; exact hv
  have h2 : 256 ^ (r + 1) ≤ 256 ^ 8 := Nat.pow_le_pow_right (by decide) (by omega)
  have h3 : b * 256 ^ r ≤ 255 * 256 ^ r := Nat.mul_le_mul_right _ (by omega)
  rw [Nat.pow_succ] at h2
  rw [Nat.pow_add, ← Nat.mul_assoc, Nat.mul_comm b, Nat.mul_assoc, Nat.mul_add_div (Nat.pow_pos (by decide)), Nat.mod_eq_of_lt (a := v / 256 ^ (8 * k)) (by omega), Nat.mod_eq_of_lt (by omega)]
  exact ⟨Nat.add_comm _ _, h1⟩

/-- a byte of a word, by its limbs -/
theorem limb_byte {v i : Nat} (hi : i < 32) : limb v (3 - i / 8) / 2 ^ (56 - 8 * (i % 8)) % 256 = v / 256 ^ (31 - i) % 256 := by
  unfold limb
  have e1 : (256 : Nat) ^ 8 = 2 ^ (56 - 8 * (i % 8)) * (256 * 256 ^ (i % 8)) := by
    rw [show (256 : Nat) = 2 ^ 8 from rfl, ← Nat.pow_mul, ← Nat.pow_mul, ← Nat.pow_add, ← Nat.pow_add]
    congr 1; omega
  have e2 : (256 : Nat) ^ (31 - i) = 256 ^ (8 * (3 - i / 8)) * 2 ^ (56 - 8 * (i % 8)) := by
    rw [show (256 : Nat) = 2 ^ 8 from rfl, ← Nat.pow_mul, ← Nat.pow_mul, ← Nat.pow_add]
    congr 1; omega
  rw [e1, Nat.mod_mul_right_div_self, Nat.mod_mul_right_mod, e2, Nat.div_div_eq_div_mul]

theorem be_at (m n i : Nat) (hi : i < m) : (be m n)[i]? = some (UInt8.ofNat (n / 256 ^ (m - 1 - i))) := by
  induction m generalizing i with
  | zero => omega
  | succ m ih =>
    rw [be_cons]
    cases i with
    | zero => rfl
    | succ i =>
      rw [List.getElem?_cons_succ, ih i (by omega)]
      congr 4; omega
/-- the bytes of a word, one more -/
theorem be_take (m n i : Nat) (hi : i < m) : (be m n).take (i + 1) = (be m n).take i ++ [UInt8.ofNat (n / 256 ^ (m - 1 - i))] := by
  rw [List.take_add_one, be_at m n i hi]; rfl
theorem ofNat_mod (x : Nat) : UInt8.ofNat (x % 256) = UInt8.ofNat x := by
  apply UInt8.toNat_inj.1; simp
theorem ofNat_byte {v i : Nat} (hi : i < 32) : UInt8.ofNat (limb v (3 - i / 8) / 2 ^ (56 - 8 * (i % 8))) = UInt8.ofNat (v / 256 ^ (31 - i)) := by
  rw [← ofNat_mod, limb_byte hi, ofNat_mod]

/-- the last n bytes -/
def lastN (n : Nat) (l : List UInt8) : List UInt8 := l.drop (l.length - n)
theorem lastN_length (n : Nat) (l : List UInt8) : (lastN n l).length = min n l.length := by unfold lastN; rw [List.length_drop]; omega
theorem lastN_all {n : Nat} {l : List UInt8} (h : l.length ≤ n) : lastN n l = l := by unfold lastN; rw [Nat.sub_eq_zero_of_le h]; rfl
theorem val_lastN_lt (n : Nat) (l : List UInt8) : val (lastN n l) < 256 ^ n :=
  Nat.lt_of_lt_of_le (val_lt _) (Nat.pow_le_pow_right (by decide) (by rw [lastN_length]; omega))
theorem lastN_succ {n : Nat} {l : List UInt8} (h : n < l.length) : lastN (n + 1) l = l[l.length - 1 - n] :: lastN n l := by
  unfold lastN
  rw [show l.length - (n + 1) = l.length - 1 - n from by omega, List.drop_eq_getElem_cons (by omega)]
  congr 2; omega
/-- the word of bytes -/
def wordOf (l : List UInt8) : Nat := val (lastN 32 l)
theorem wordOf_lt (l : List UInt8) : wordOf l < 256 ^ 32 := val_lastN_lt 32 l
/-- the bytes of a word without the noughts ahead -/
def shortW (v : Nat) : List UInt8 := strip (be 32 v)
theorem shortW_length (v : Nat) : (shortW v).length ≤ 32 := by
  have := strip_length (be 32 v); rw [be_length] at this; exact this
theorem val_be32 {v : Nat} (h : v < 256 ^ 32) : val (be 32 v) = v := by rw [val_be]; exact Nat.mod_eq_of_lt h
theorem wordOf_shortW {v : Nat} (h : v < 256 ^ 32) : wordOf (shortW v) = v := by
  unfold wordOf
  rw [lastN_all (shortW_length v), shortW, val_strip, val_be32 h]
theorem shortW_head (v : Nat) : (shortW v).head? ≠ some 0 := strip_head _
/-- bytes that are a word's -/
def isShortW (l : List UInt8) : Bool := decide (l.length ≤ 32) && !Lib.hasPrefix l [0]
theorem shortW_wordOf {l : List UInt8} (h : l.length ≤ 32) (h2 : l.head? ≠ some 0) : shortW (wordOf l) = l := by
  have hv : wordOf l = val l := by unfold wordOf; rw [lastN_all h]
  have hlt : val l < 256 ^ 32 := Nat.lt_of_lt_of_le (val_lt l) (Nat.pow_le_pow_right (by decide) h)
  refine val_inj (strip_head _) h2 ?_
  rw [shortW, val_strip, hv, val_be32 hlt]
theorem wordOf_zero {l : List UInt8} (h : l.length ≤ 32) (h2 : l.head? ≠ some 0) : wordOf l = 0 ↔ l = [] := by
  constructor
  · intro h0
    have := shortW_wordOf h h2
    rw [h0] at this
    rw [← this]; decide
  · rintro rfl; rfl
end Go.Proofs.YtmjblnhnadffmaaDoor
