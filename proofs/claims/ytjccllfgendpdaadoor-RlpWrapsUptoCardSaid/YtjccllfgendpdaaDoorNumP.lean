/- Plain numbers as bytes, the highest byte first: no program is named. -/
import Derived.Test.YtjccllfgendpdaaDoorNibsP
namespace Go.Proofs.YtjccllfgendpdaaDoor
open Go.RowKit

/-- the number of bytes -/
def val (l : List UInt8) : Nat := l.foldl (fun n b => n * 256 + b.toNat) 0
theorem val_snoc (l : List UInt8) (b : UInt8) : val (l ++ [b]) = val l * 256 + b.toNat := by simp [val]
theorem val_nil : val [] = 0 := rfl
theorem foldl_val (l : List UInt8) (a : Nat) : l.foldl (fun n b => n * 256 + b.toNat) a = a * 256 ^ l.length + val l := by
  induction l generalizing a with
  | nil => simp [val]
  | cons b l ih =>
    simp only [List.foldl_cons, val]
    rw [ih, ih, List.length_cons, Nat.pow_succ, Nat.add_mul, Nat.zero_mul, Nat.zero_add]
    rw [Nat.mul_assoc, Nat.mul_comm 256, Nat.add_assoc]
theorem val_cons (b : UInt8) (l : List UInt8) : val (b :: l) = b.toNat * 256 ^ l.length + val l := by
  show l.foldl _ (0 * 256 + b.toNat) = _
  rw [foldl_val]; simp
theorem val_lt (l : List UInt8) : val l < 256 ^ l.length := by
  induction l with
  | nil => simp [val]
  | cons b l ih =>
    rw [val_cons, List.length_cons, Nat.pow_succ]
    have := b.toNat_lt
    calc b.toNat * 256 ^ l.length + val l < b.toNat * 256 ^ l.length + 256 ^ l.length := by omega
      _ = (b.toNat + 1) * 256 ^ l.length := by rw [Nat.add_mul, Nat.one_mul]
      _ ≤ 256 * 256 ^ l.length := Nat.mul_le_mul_right _ (by omega)
      _ = 256 ^ l.length * 256 := Nat.mul_comm _ _
theorem val_append (l r : List UInt8) : val (l ++ r) = val l * 256 ^ r.length + val r := by
  unfold val
  rw [List.foldl_append, foldl_val]; rfl

/-- the low k bytes of a number -/
def be : Nat → Nat → List UInt8
  | 0, _ => []
  | k + 1, n => be k (n / 256) ++ [UInt8.ofNat n]
theorem be_length (k n : Nat) : (be k n).length = k := by
  induction k generalizing n with
  | zero => rfl
  | succ k ih => simp [be, ih]
theorem val_be (k n : Nat) : val (be k n) = n % 256 ^ k := by
  induction k generalizing n with
  | zero => simp [be, val, Nat.mod_one]
  | succ k ih =>
    rw [be, val_snoc, ih, Nat.pow_succ, Nat.mul_comm (256 ^ k), Nat.mod_mul]
    simp
    omega
theorem val_be8 {n : Nat} (h : n < 18446744073709551616) : val (be 8 n) = n := by
  rw [val_be]; exact Nat.mod_eq_of_lt h
theorem be_cons (k n : Nat) : be (k + 1) n = UInt8.ofNat (n / 256 ^ k) :: be k n := by
  induction k generalizing n with
  | zero => simp [be]
  | succ k ih =>
    rw [be, ih (n / 256), be, List.cons_append, Nat.div_div_eq_div_mul, Nat.pow_succ, Nat.mul_comm 256]
/-- strip the bytes 0 ahead -/
def strip (l : List UInt8) : List UInt8 := l.dropWhile (· == 0)
theorem val_strip (l : List UInt8) : val (strip l) = val l := by
  induction l with
  | nil => rfl
  | cons b l ih =>
    unfold strip
    rw [List.dropWhile_cons]
    split
    · rename_i h
      have : b = 0 := by simpa using h
      subst this
      rw [val_cons]
      show val (strip l) = _
      rw [ih]; simp
    · rfl
/-- a number's bytes -/
def num (n : Nat) : List UInt8 := strip (be 8 n)
theorem val_num {n : Nat} (h : n < 18446744073709551616) : val (num n) = n := by rw [num, val_strip, val_be8 h]
theorem strip_length (l : List UInt8) : (strip l).length ≤ l.length := by
  unfold strip
  exact (List.dropWhile_suffix _).length_le
theorem num_length (n : Nat) : (num n).length ≤ 8 := by
  have := strip_length (be 8 n)
  rw [be_length] at this
  exact this
theorem strip_head (l : List UInt8) : (strip l).head? ≠ some 0 := by
  induction l with
  | nil => simp [strip]
  | cons b l ih =>
    unfold strip
    rw [List.dropWhile_cons]
    split
    · exact ih
    · rename_i h
      intro e
      simp at e
      subst e
      simp at h
/-- a list without a byte 0 ahead is found again from its number -/
theorem val_inj {l r : List UInt8} (hl : l.head? ≠ some 0) (hr : r.head? ≠ some 0) (h : val l = val r) : l = r := by
  have len : ∀ {x : List UInt8}, x.head? ≠ some 0 → x ≠ [] → 256 ^ (x.length - 1) ≤ val x := by
    intro x hx hne
    cases x with
    | nil => exact absurd rfl hne
    | cons b x =>
      have hb : b.toNat ≠ 0 := fun e => hx (by simp; exact UInt8.toNat_inj.1 e)
      rw [val_cons, List.length_cons, Nat.add_sub_cancel]
      calc 256 ^ x.length = 1 * 256 ^ x.length := by omega
        _ ≤ b.toNat * 256 ^ x.length := Nat.mul_le_mul_right _ (by omega)
        _ ≤ _ := by omega
  have hlen : l.length = r.length := by
    have key : ∀ {x y : List UInt8}, x.head? ≠ some 0 → y.head? ≠ some 0 → val x = val y → x.length ≤ y.length := by
      intro x y hx _ e
      rcases Nat.lt_or_ge y.length x.length with hlt | hge
      · exfalso
        have h1 := len hx (by intro e0; rw [e0] at hlt; simp at hlt)
        have h2 := val_lt y
        have h3 : 256 ^ y.length ≤ 256 ^ (x.length - 1) := Nat.pow_le_pow_right (by omega) (by omega)
        omega
      · exact hge
    exact Nat.le_antisymm (key hl hr h) (key hr hl h.symm)
  have inj : ∀ {x y : List UInt8}, x.length = y.length → val x = val y → x = y := by
    intro x
    induction x with
    | nil => intro y hy _; cases y with
      | nil => rfl
      | cons b y => simp at hy
    | cons a x ih =>
      intro y hy e
      cases y with
      | nil => simp at hy
      | cons b y =>
        simp only [List.length_cons, Nat.add_right_cancel_iff] at hy
        rw [val_cons, val_cons, hy] at e
        have h1 := val_lt x
        have h2 := val_lt y
        rw [hy] at h1
        have hp : 0 < 256 ^ y.length := Nat.pow_pos (by omega)
        have e1 : a.toNat = b.toNat := by
          have d1 : (a.toNat * 256 ^ y.length + val x) / 256 ^ y.length = a.toNat := by
            rw [Nat.mul_comm, Nat.mul_add_div hp, Nat.div_eq_of_lt h1, Nat.add_zero]
          have d2 : (b.toNat * 256 ^ y.length + val y) / 256 ^ y.length = b.toNat := by
            rw [Nat.mul_comm, Nat.mul_add_div hp, Nat.div_eq_of_lt h2, Nat.add_zero]
          rw [← d1, ← d2, e]
        rw [e1] at e
        rw [UInt8.toNat_inj.1 e1, ih hy (by omega)]
  exact inj hlen h
theorem num_val {l : List UInt8} (hl : l.head? ≠ some 0) (hlen : l.length ≤ 8) : num (val l) = l := by
  have hlt : val l < 18446744073709551616 := Nat.lt_of_lt_of_le (val_lt l) (Nat.pow_le_pow_right (by omega) hlen)
  exact val_inj (strip_head _) hl (val_num hlt)
theorem num_zero : num 0 = [] := by decide
/-- bytes as a number, and the error -/
def value (l : List UInt8) : Nat × Int := if l.length > 8 ∨ l.head? = some 0 then (0, 40) else (val l, 0)
theorem val_lt64 {l : List UInt8} (h : l.length ≤ 8) : val l < 18446744073709551616 := Nat.lt_of_lt_of_le (val_lt l) (Nat.pow_le_pow_right (by omega) h)
/-- the low bytes, once the number is used up: the number's bytes -/
theorem be_num {n k : Nat} (hn : n < 18446744073709551616) (h0 : n / 256 ^ k = 0) (h1 : k = 0 ∨ n / 256 ^ (k - 1) ≠ 0) : be k n = num n := by
  have hlt : n < 256 ^ k := by
    rcases Nat.lt_or_ge n (256 ^ k) with h | h
    · exact h
    · have := Nat.div_pos h (Nat.pow_pos (by omega)); omega
  refine val_inj ?_ (strip_head _) ?_
  · rcases h1 with rfl | h1
    · simp [be]
    · cases k with
      | zero => simp [be]
      | succ k =>
        rw [be_cons]
        simp only [List.head?_cons, ne_eq, Option.some.injEq]
        intro e
        have e' : (n / 256 ^ k) % 256 = 0 := by
          have := congrArg UInt8.toNat e
          simpa using this
        have h2 : n / 256 ^ k < 256 := by
          rw [Nat.div_lt_iff_lt_mul (Nat.pow_pos (by omega)), Nat.mul_comm, ← Nat.pow_succ]
          exact hlt
        rw [Nat.mod_eq_of_lt h2] at e'
        exact h1 (by simpa using e')
  · rw [val_be, val_num hn, Nat.mod_eq_of_lt hlt]
end Go.Proofs.YtjccllfgendpdaaDoor
