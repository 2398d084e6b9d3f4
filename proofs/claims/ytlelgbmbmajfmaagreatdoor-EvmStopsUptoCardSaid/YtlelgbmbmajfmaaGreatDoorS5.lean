/- What the walks take: Ew2. -/
import Derived.Test.YtlelgbmbmajfmaaGreatDoorS3
import Derived.Lib.SlTrimSet
namespace Go.Proofs.YtlelgbmbmajfmaaGreatDoor
open Go.RowKit
end Go.Proofs.YtlelgbmbmajfmaaGreatDoor
/- Plain numbers as bytes, the highest byte first: no program is named. -/
namespace Go.Proofs.YtlelgbmbmajfmaaGreatDoor
open Go.RowKit
def val (l : List UInt8) : Nat := l.foldl (fun n b => n * 256 + b.toNat) 0
theorem foldl_val (l : List UInt8) (a : Nat) : l.foldl (fun n b => n * 256 + b.toNat) a = a * 256 ^ l.length + val l := by
  induction l generalizing a with
  | nil => simp [val]
  | cons b l ih =>
    simp only [List.foldl_cons, val]
    rw [ih, ih, List.length_cons, Nat.pow_succ, Nat.add_mul, Nat.zero_mul, Nat.zero_add]
    rw [Nat.mul_assoc, Nat.mul_comm 256, Nat.add_assoc]
theorem val_cons (b : UInt8) (l : List UInt8) : val (b :: l) = b.toNat * 256 ^ l.length + val l := by
  show l.foldl _ (0 * 256 + b.toNat) = _
  rw [foldl_val]; simp
theorem val_lt (l : List UInt8) : val l < 256 ^ l.length := by
  induction l with
  | nil => simp [val]
  | cons b l ih =>
    rw [val_cons, List.length_cons, Nat.pow_succ]
    have := b.toNat_lt
    calc b.toNat * 256 ^ l.length + val l < b.toNat * 256 ^ l.length + 256 ^ l.length := by omega
      _ = (b.toNat + 1) * 256 ^ l.length := by rw [Nat.add_mul, Nat.one_mul]
      _ ≤ 256 * 256 ^ l.length := Nat.mul_le_mul_right _ (by omega)
      _ = 256 ^ l.length * 256 := Nat.mul_comm _ _
def be : Nat → Nat → List UInt8
  | 0, _ => []
  | k + 1, n => be k (n / 256) ++ [UInt8.ofNat n]
theorem be_length (k n : Nat) : (be k n).length = k := by
  induction k generalizing n with
  | zero => rfl
  | succ k ih => simp [be, ih]
theorem be_cons (k n : Nat) : be (k + 1) n = UInt8.ofNat (n / 256 ^ k) :: be k n := by
  induction k generalizing n with
  | zero => simp [be]
  | succ k ih =>
    rw [be, ih (n / 256), be, List.cons_append, Nat.div_div_eq_div_mul, Nat.pow_succ, Nat.mul_comm 256]
def value (l : List UInt8) : Nat × Int := if l.length > 8 ∨ l.head? = some 0 then (0, 40) else (val l, 0)
end Go.Proofs.YtlelgbmbmajfmaaGreatDoor
/- Plain items, their bytes, and the items of bytes: no program is named. -/
namespace Go.Proofs.YtlelgbmbmajfmaaGreatDoor
open Go.RowKit
end Go.Proofs.YtlelgbmbmajfmaaGreatDoor
/- Plain items: how many there are in one, and what the recursive functions give of a list. -/
namespace Go.Proofs.YtlelgbmbmajfmaaGreatDoor
open Go.RowKit
end Go.Proofs.YtlelgbmbmajfmaaGreatDoor
/- Plain items: what is written is read as it was, and what is read is written so again. No program is named. -/
namespace Go.Proofs.YtlelgbmbmajfmaaGreatDoor
open Go.RowKit
end Go.Proofs.YtlelgbmbmajfmaaGreatDoor
/- Plain items: what is deep, and the bytes of a list of one or two. No program is named. -/
namespace Go.Proofs.YtlelgbmbmajfmaaGreatDoor
open Go.RowKit
end Go.Proofs.YtlelgbmbmajfmaaGreatDoor
namespace Go.Proofs.YtlelgbmbmajfmaaGreatDoor
open Go.RowKit
def upd (f : Nat → UInt64) (i : Nat) (v : UInt64) : Nat → UInt64 := fun j => if j = i then v else f j
theorem upd_at (f : Nat → UInt64) (i : Nat) (v : UInt64) : upd f i v i = v := by unfold upd; rw [if_pos rfl]
theorem upd_other (f : Nat → UInt64) {i j : Nat} (v : UInt64) (h : j ≠ i) : upd f i v j = f j := by unfold upd; rw [if_neg h]
def rotl (x : UInt64) (n : Nat) : UInt64 := x <<< UInt64.ofNat n ||| x >>> UInt64.ofNat (64 - n)
def zeroL : Nat → UInt64 := fun _ => 0
def turnsL : List Nat := [1, 3, 6, 10, 15, 21, 28, 36, 45, 55, 2, 14, 27, 41, 56, 8, 25, 43, 62, 18, 39, 61, 20, 44]
def placesL : List Nat := [10, 7, 11, 17, 18, 3, 5, 16, 8, 21, 24, 4, 15, 23, 19, 13, 12, 2, 20, 14, 22, 9, 6, 1]
def constsL : List UInt64 := [0x1, 0x8082, 0x800000000000808a, 0x8000000080008000, 0x808b, 0x80000001, 0x8000000080008081, 0x8000000000008009, 0x8a, 0x88, 0x80008009, 0x8000000a, 0x8000808b, 0x800000000000008b, 0x8000000000008089, 0x8000000000008003, 0x8000000000008002, 0x8000000000000080, 0x800a, 0x800000008000000a, 0x8000000080008081, 0x8000000000008080, 0x80000001, 0x8000000080008008]
/-! the program's way -/
def colP (a : Nat → UInt64) : Nat → Nat → UInt64
  | 0 => zeroL
  | n + 1 => upd (colP a n) (n % 5) (colP a n (n % 5) ^^^ a n)
def thetaP (c : Nat → UInt64) (a : Nat → UInt64) : Nat → Nat → UInt64
  | 0 => a
  | n + 1 => upd (thetaP c a n) n (thetaP c a n n ^^^ (c ((n + 4) % 5) ^^^ rotl (c ((n + 1) % 5)) 1))
def rhoP (a : Nat → UInt64) : Nat → UInt64 × (Nat → UInt64)
  | 0 => (a 1, a)
  | n + 1 => ((rhoP a n).2 (placesL.getD n 0), upd (rhoP a n).2 (placesL.getD n 0) (rotl (rhoP a n).1 (turnsL.getD n 0)))
def chiRow (r : Nat → UInt64) (y : Nat) (a : Nat → UInt64) : Nat → Nat → UInt64
  | 0 => a
  | n + 1 => upd (chiRow r y a n) (y + n) (r n ^^^ (~~~ r ((n + 1) % 5) &&& r ((n + 2) % 5)))
def chiP (a : Nat → UInt64) : Nat → Nat → UInt64
  | 0 => a
  | n + 1 => chiRow (fun x => chiP a n (5 * n + x)) (5 * n) (chiP a n) 5
def roundP (a : Nat → UInt64) (i : Nat) : Nat → UInt64 :=
  let t := thetaP (colP a 25) a 25
  let b := chiP (rhoP t 24).2 5
  upd b 0 (b 0 ^^^ constsL.getD i 0)
def permP (a : Nat → UInt64) : Nat → Nat → UInt64
  | 0 => a
  | n + 1 => roundP (permP a n) n
/-! the document's way -/
def atR (x y : Nat) : Nat := (x + 10) % 5 + 5 * ((y + 10) % 5)
def leftR (x : UInt64) (n : Nat) : UInt64 := if n = 0 then x else rotl x n
def colR (a : Nat → UInt64) : Nat → Nat → UInt64
  | 0 => zeroL
  | n + 1 => upd (colR a n) (n / 5) (colR a n (n / 5) ^^^ a (atR (n / 5) (n % 5)))
def rhoR (c : Nat → UInt64) (r : Nat → Nat) (a : Nat → UInt64) : Nat → Nat → UInt64
  | 0 => zeroL
  | n + 1 => upd (rhoR c r a n) (atR (n % 5) (2 * (n / 5) + 3 * (n % 5))) (leftR (a (atR (n / 5) (n % 5)) ^^^ c ((n / 5 + 4) % 5) ^^^ leftR (c ((n / 5 + 1) % 5)) 1) (r (atR (n / 5) (n % 5))))
def chiR (b : Nat → UInt64) : Nat → Nat → UInt64
  | 0 => zeroL
  | n + 1 => upd (chiR b n) (atR (n / 5) (n % 5)) (b (atR (n / 5) (n % 5)) ^^^ (~~~ b (atR (n / 5 + 1) (n % 5)) &&& b (atR (n / 5 + 2) (n % 5))))
def turnsR : Nat → Nat × Nat × (Nat → Nat)
  | 0 => (1, 0, fun _ => 0)
  | t + 1 =>
    let (x, y, f) := turnsR t
    (y, (2 * x + 3 * y) % 5, fun j => if j = atR x y then (t + 1) * (t + 2) / 2 % 64 else f j)
def constR (i : Nat) : Nat → Nat × UInt64
  | 0 => (1, 0)
  | n + 1 =>
    let (row, out) := constR i n
    let o := if 7 * i ≤ n ∧ row % 2 = 1 then out ||| 1 <<< UInt64.ofNat (2 ^ (n - 7 * i) - 1) else out
    let row2 := 2 * row
    (if row2 ≥ 256 then row2 ^^^ 0x171 else row2, o)
def roundR (a : Nat → UInt64) (i : Nat) : Nat → UInt64 :=
  let b := chiR (rhoR (colR a 25) (turnsR 24).2.2 a 25) 25
  upd b 0 (b 0 ^^^ (constR i (7 * i + 7)).2)
def permR (a : Nat → UInt64) : Nat → Nat → UInt64
  | 0 => a
  | n + 1 => roundR (permR a n) n
/-! both are one -/
theorem col_one (a : Nat → UInt64) (x : Nat) (hx : x < 5) : colP a 25 x = colR a 25 x := by
  match x, hx with
  | 0, _ => rfl
  | 1, _ => rfl
  | 2, _ => rfl
  | 3, _ => rfl
  | 4, _ => rfl
theorem theta_at (c a : Nat → UInt64) (m j : Nat) : thetaP c a m j = if j < m then a j ^^^ (c ((j + 4) % 5) ^^^ rotl (c ((j + 1) % 5)) 1) else a j := by
  induction m generalizing j with
  | zero => rfl
  | succ m ih =>
    unfold thetaP
    by_cases h : j = m
    · subst h
      rw [upd_at, if_pos (Nat.lt_succ_self _), ih j, if_neg (Nat.lt_irrefl _)]
    · rw [upd_other _ _ h, ih j]
      by_cases h2 : j < m
      · rw [if_pos h2, if_pos (by omega)]
      · rw [if_neg h2, if_neg (by omega)]
def laneT (c a : Nat → UInt64) (j : Nat) : UInt64 := a j ^^^ c ((j + 4) % 5) ^^^ rotl (c ((j + 1) % 5)) 1
theorem theta_lane (c a : Nat → UInt64) (j : Nat) (h : j < 25) : thetaP c a 25 j = laneT c a j := by
  rw [theta_at, if_pos h]
  unfold laneT
  rw [UInt64.xor_assoc]
theorem turns_all : (List.range 25).map (turnsR 24).2.2 = [0, 1, 62, 28, 27, 36, 44, 6, 55, 20, 3, 10, 43, 25, 39, 41, 45, 15, 21, 8, 18, 2, 61, 56, 14] := by decide +kernel
theorem turn_at (j : Nat) (h : j < 25) : (turnsR 24).2.2 j = ([0, 1, 62, 28, 27, 36, 44, 6, 55, 20, 3, 10, 43, 25, 39, 41, 45, 15, 21, 8, 18, 2, 61, 56, 14] : List Nat).getD j 0 := by
  rw [← turns_all, List.getD_eq_getElem?_getD, List.getElem?_map, List.getElem?_range h]
  rfl
theorem leftR_pos (x : UInt64) {n : Nat} (h : n ≠ 0) : leftR x n = rotl x n := by unfold leftR; rw [if_neg h]
def laneB (t : Nat → UInt64) (j : Nat) : UInt64 := leftR (t (([0, 6, 12, 18, 24, 3, 9, 10, 16, 22, 1, 7, 13, 19, 20, 4, 5, 11, 17, 23, 2, 8, 14, 15, 21] : List Nat).getD j 0)) (([0, 44, 43, 21, 14, 28, 20, 3, 45, 61, 1, 6, 25, 8, 18, 27, 36, 10, 15, 56, 62, 55, 39, 41, 2] : List Nat).getD j 0)
theorem rhoP_at (t : Nat → UInt64) (j : Nat) (h : j < 25) : (rhoP t 24).2 j = laneB t j := by
  have hjs : j = 0 ∨ j = 1 ∨ j = 2 ∨ j = 3 ∨ j = 4 ∨ j = 5 ∨ j = 6 ∨ j = 7 ∨ j = 8 ∨ j = 9 ∨ j = 10 ∨ j = 11 ∨ j = 12 ∨ j = 13 ∨ j = 14 ∨ j = 15 ∨ j = 16 ∨ j = 17 ∨ j = 18 ∨ j = 19 ∨ j = 20 ∨ j = 21 ∨ j = 22 ∨ j = 23 ∨ j = 24 := by omega
  rcases hjs with rfl | rfl | rfl | rfl | rfl | rfl | rfl | rfl | rfl | rfl | rfl | rfl | rfl | rfl | rfl | rfl | rfl | rfl | rfl | rfl | rfl | rfl | rfl | rfl | rfl
  · rfl
  · rfl
  · rfl
  · rfl
  · rfl
  · rfl
  · rfl
  · rfl
  · rfl
  · rfl
  · rfl
  · rfl
  · rfl
  · rfl
  · rfl
  · rfl
  · rfl
  · rfl
  · rfl
  · rfl
  · rfl
  · rfl
  · rfl
  · rfl
  · rfl
theorem rhoR_at (c a : Nat → UInt64) (j : Nat) (h : j < 25) : rhoR c (turnsR 24).2.2 a 25 j = laneB (laneT c a) j := by
  have hjs : j = 0 ∨ j = 1 ∨ j = 2 ∨ j = 3 ∨ j = 4 ∨ j = 5 ∨ j = 6 ∨ j = 7 ∨ j = 8 ∨ j = 9 ∨ j = 10 ∨ j = 11 ∨ j = 12 ∨ j = 13 ∨ j = 14 ∨ j = 15 ∨ j = 16 ∨ j = 17 ∨ j = 18 ∨ j = 19 ∨ j = 20 ∨ j = 21 ∨ j = 22 ∨ j = 23 ∨ j = 24 := by omega
  rcases hjs with rfl | rfl | rfl | rfl | rfl | rfl | rfl | rfl | rfl | rfl | rfl | rfl | rfl | rfl | rfl | rfl | rfl | rfl | rfl | rfl | rfl | rfl | rfl | rfl | rfl
  · have h : rhoR c (turnsR 24).2.2 a 25 0 = leftR (laneT c a 0) ((turnsR 24).2.2 0) := rfl
    exact h.trans (by rw [turn_at 0 (by decide)]; rfl)
  · have h : rhoR c (turnsR 24).2.2 a 25 1 = leftR (laneT c a 6) ((turnsR 24).2.2 6) := rfl
    exact h.trans (by rw [turn_at 6 (by decide)]; rfl)
  · have h : rhoR c (turnsR 24).2.2 a 25 2 = leftR (laneT c a 12) ((turnsR 24).2.2 12) := rfl
    exact h.trans (by rw [turn_at 12 (by decide)]; rfl)
  · have h : rhoR c (turnsR 24).2.2 a 25 3 = leftR (laneT c a 18) ((turnsR 24).2.2 18) := rfl
    exact h.trans (by rw [turn_at 18 (by decide)]; rfl)
  · have h : rhoR c (turnsR 24).2.2 a 25 4 = leftR (laneT c a 24) ((turnsR 24).2.2 24) := rfl
    exact h.trans (by rw [turn_at 24 (by decide)]; rfl)
  · have h : rhoR c (turnsR 24).2.2 a 25 5 = leftR (laneT c a 3) ((turnsR 24).2.2 3) := rfl
    exact h.trans (by rw [turn_at 3 (by decide)]; rfl)
  · have h : rhoR c (turnsR 24).2.2 a 25 6 = leftR (laneT c a 9) ((turnsR 24).2.2 9) := rfl
    exact h.trans (by rw [turn_at 9 (by decide)]; rfl)
  · have h : rhoR c (turnsR 24).2.2 a 25 7 = leftR (laneT c a 10) ((turnsR 24).2.2 10) := rfl
    exact h.trans (by rw [turn_at 10 (by decide)]; rfl)
  · have h : rhoR c (turnsR 24).2.2 a 25 8 = leftR (laneT c a 16) ((turnsR 24).2.2 16) := rfl
    exact h.trans (by rw [turn_at 16 (by decide)]; rfl)
  · have h : rhoR c (turnsR 24).2.2 a 25 9 = leftR (laneT c a 22) ((turnsR 24).2.2 22) := rfl
    exact h.trans (by rw [turn_at 22 (by decide)]; rfl)
  · have h : rhoR c (turnsR 24).2.2 a 25 10 = leftR (laneT c a 1) ((turnsR 24).2.2 1) := rfl
    exact h.trans (by rw [turn_at 1 (by decide)]; rfl)
  · have h : rhoR c (turnsR 24).2.2 a 25 11 = leftR (laneT c a 7) ((turnsR 24).2.2 7) := rfl
    exact h.trans (by rw [turn_at 7 (by decide)]; rfl)
  · have h : rhoR c (turnsR 24).2.2 a 25 12 = leftR (laneT c a 13) ((turnsR 24).2.2 13) := rfl
    exact h.trans (by rw [turn_at 13 (by decide)]; rfl)
  · have h : rhoR c (turnsR 24).2.2 a 25 13 = leftR (laneT c a 19) ((turnsR 24).2.2 19) := rfl
    exact h.trans (by rw [turn_at 19 (by decide)]; rfl)
  · have h : rhoR c (turnsR 24).2.2 a 25 14 = leftR (laneT c a 20) ((turnsR 24).2.2 20) := rfl
    exact h.trans (by rw [turn_at 20 (by decide)]; rfl)
  · have h : rhoR c (turnsR 24).2.2 a 25 15 = leftR (laneT c a 4) ((turnsR 24).2.2 4) := rfl
    exact h.trans (by rw [turn_at 4 (by decide)]; rfl)
  · have h : rhoR c (turnsR 24).2.2 a 25 16 = leftR (laneT c a 5) ((turnsR 24).2.2 5) := rfl
    exact h.trans (by rw [turn_at 5 (by decide)]; rfl)
  · have h : rhoR c (turnsR 24).2.2 a 25 17 = leftR (laneT c a 11) ((turnsR 24).2.2 11) := rfl
    exact h.trans (by rw [turn_at 11 (by decide)]; rfl)
  · have h : rhoR c (turnsR 24).2.2 a 25 18 = leftR (laneT c a 17) ((turnsR 24).2.2 17) := rfl
    exact h.trans (by rw [turn_at 17 (by decide)]; rfl)
  · have h : rhoR c (turnsR 24).2.2 a 25 19 = leftR (laneT c a 23) ((turnsR 24).2.2 23) := rfl
    exact h.trans (by rw [turn_at 23 (by decide)]; rfl)
  · have h : rhoR c (turnsR 24).2.2 a 25 20 = leftR (laneT c a 2) ((turnsR 24).2.2 2) := rfl
    exact h.trans (by rw [turn_at 2 (by decide)]; rfl)
  · have h : rhoR c (turnsR 24).2.2 a 25 21 = leftR (laneT c a 8) ((turnsR 24).2.2 8) := rfl
    exact h.trans (by rw [turn_at 8 (by decide)]; rfl)
  · have h : rhoR c (turnsR 24).2.2 a 25 22 = leftR (laneT c a 14) ((turnsR 24).2.2 14) := rfl
    exact h.trans (by rw [turn_at 14 (by decide)]; rfl)
  · have h : rhoR c (turnsR 24).2.2 a 25 23 = leftR (laneT c a 15) ((turnsR 24).2.2 15) := rfl
    exact h.trans (by rw [turn_at 15 (by decide)]; rfl)
  · have h : rhoR c (turnsR 24).2.2 a 25 24 = leftR (laneT c a 21) ((turnsR 24).2.2 21) := rfl
    exact h.trans (by rw [turn_at 21 (by decide)]; rfl)
def laneC (b : Nat → UInt64) (j : Nat) : UInt64 := b j ^^^ (~~~ b (5 * (j / 5) + (j % 5 + 1) % 5) &&& b (5 * (j / 5) + (j % 5 + 2) % 5))
theorem chiR_at (b : Nat → UInt64) (j : Nat) (h : j < 25) : chiR b 25 j = laneC b j := by
  have hjs : j = 0 ∨ j = 1 ∨ j = 2 ∨ j = 3 ∨ j = 4 ∨ j = 5 ∨ j = 6 ∨ j = 7 ∨ j = 8 ∨ j = 9 ∨ j = 10 ∨ j = 11 ∨ j = 12 ∨ j = 13 ∨ j = 14 ∨ j = 15 ∨ j = 16 ∨ j = 17 ∨ j = 18 ∨ j = 19 ∨ j = 20 ∨ j = 21 ∨ j = 22 ∨ j = 23 ∨ j = 24 := by omega
  rcases hjs with rfl | rfl | rfl | rfl | rfl | rfl | rfl | rfl | rfl | rfl | rfl | rfl | rfl | rfl | rfl | rfl | rfl | rfl | rfl | rfl | rfl | rfl | rfl | rfl | rfl
  · rfl
  · rfl
  · rfl
  · rfl
  · rfl
  · rfl
  · rfl
  · rfl
  · rfl
  · rfl
  · rfl
  · rfl
  · rfl
  · rfl
  · rfl
  · rfl
  · rfl
  · rfl
  · rfl
  · rfl
  · rfl
  · rfl
  · rfl
  · rfl
  · rfl
theorem chiRow_at (r : Nat → UInt64) (y : Nat) (a : Nat → UInt64) (n j : Nat) : chiRow r y a n j = if y ≤ j ∧ j < y + n then r (j - y) ^^^ (~~~ r ((j - y + 1) % 5) &&& r ((j - y + 2) % 5)) else a j := by
  induction n generalizing j with
  | zero => unfold chiRow; rw [if_neg (by omega)]
  | succ n ih =>
    unfold chiRow
    by_cases h : j = y + n
    · subst h
      rw [upd_at, if_pos (by omega), Nat.add_sub_cancel_left]
    · rw [upd_other _ _ h, ih j]
      by_cases h2 : y ≤ j ∧ j < y + n
      · rw [if_pos h2, if_pos (by omega)]
      · rw [if_neg h2, if_neg (by omega)]
theorem chiP_at (b : Nat → UInt64) (n j : Nat) : chiP b n j = if j < 5 * n then laneC b j else b j := by
  induction n generalizing j with
  | zero => rfl
  | succ n ih =>
    unfold chiP
    rw [chiRow_at]
    by_cases h : 5 * n ≤ j ∧ j < 5 * n + 5
    · rw [if_pos h, if_pos (by omega), ih (5 * n + (j - 5 * n)), if_neg (by omega), ih (5 * n + (j - 5 * n + 1) % 5), if_neg (by omega), ih (5 * n + (j - 5 * n + 2) % 5), if_neg (by omega)]
      unfold laneC
      rw [show 5 * n + (j - 5 * n) = j by omega, show j / 5 = n by omega, show j - 5 * n = j % 5 by omega]
    · rw [if_neg h, ih j]
      by_cases h2 : j < 5 * n
      · rw [if_pos h2, if_pos (by omega)]
      · rw [if_neg h2, if_neg (by omega)]
theorem laneC_ext {b b' : Nat → UInt64} (h : ∀ j, j < 25 → b j = b' j) (j : Nat) (hj : j < 25) : laneC b j = laneC b' j := by
  unfold laneC
  rw [h j hj, h _ (by omega), h _ (by omega)]
theorem laneB_ext {b b' : Nat → UInt64} (h : ∀ j, j < 25 → b j = b' j) (j : Nat) (hj : j < 25) : laneB b j = laneB b' j := by
  have hjs : j = 0 ∨ j = 1 ∨ j = 2 ∨ j = 3 ∨ j = 4 ∨ j = 5 ∨ j = 6 ∨ j = 7 ∨ j = 8 ∨ j = 9 ∨ j = 10 ∨ j = 11 ∨ j = 12 ∨ j = 13 ∨ j = 14 ∨ j = 15 ∨ j = 16 ∨ j = 17 ∨ j = 18 ∨ j = 19 ∨ j = 20 ∨ j = 21 ∨ j = 22 ∨ j = 23 ∨ j = 24 := by omega
  rcases hjs with rfl | rfl | rfl | rfl | rfl | rfl | rfl | rfl | rfl | rfl | rfl | rfl | rfl | rfl | rfl | rfl | rfl | rfl | rfl | rfl | rfl | rfl | rfl | rfl | rfl
  · exact congrArg (fun v => leftR v 0) (h 0 (by decide))
  · exact congrArg (fun v => leftR v 44) (h 6 (by decide))
  · exact congrArg (fun v => leftR v 43) (h 12 (by decide))
  · exact congrArg (fun v => leftR v 21) (h 18 (by decide))
  · exact congrArg (fun v => leftR v 14) (h 24 (by decide))
  · exact congrArg (fun v => leftR v 28) (h 3 (by decide))
  · exact congrArg (fun v => leftR v 20) (h 9 (by decide))
  · exact congrArg (fun v => leftR v 3) (h 10 (by decide))
  · exact congrArg (fun v => leftR v 45) (h 16 (by decide))
  · exact congrArg (fun v => leftR v 61) (h 22 (by decide))
  · exact congrArg (fun v => leftR v 1) (h 1 (by decide))
  · exact congrArg (fun v => leftR v 6) (h 7 (by decide))
  · exact congrArg (fun v => leftR v 25) (h 13 (by decide))
  · exact congrArg (fun v => leftR v 8) (h 19 (by decide))
  · exact congrArg (fun v => leftR v 18) (h 20 (by decide))
  · exact congrArg (fun v => leftR v 27) (h 4 (by decide))
  · exact congrArg (fun v => leftR v 36) (h 5 (by decide))
  · exact congrArg (fun v => leftR v 10) (h 11 (by decide))
  · exact congrArg (fun v => leftR v 15) (h 17 (by decide))
  · exact congrArg (fun v => leftR v 56) (h 23 (by decide))
  · exact congrArg (fun v => leftR v 62) (h 2 (by decide))
  · exact congrArg (fun v => leftR v 55) (h 8 (by decide))
  · exact congrArg (fun v => leftR v 39) (h 14 (by decide))
  · exact congrArg (fun v => leftR v 41) (h 15 (by decide))
  · exact congrArg (fun v => leftR v 2) (h 21 (by decide))
theorem laneT_ext {c c' a a' : Nat → UInt64} (hc : ∀ j, j < 5 → c j = c' j) (h : ∀ j, j < 25 → a j = a' j) (j : Nat) (hj : j < 25) : laneT c a j = laneT c' a' j := by
  unfold laneT
  rw [h j hj, hc _ (Nat.mod_lt _ (by decide)), hc _ (Nat.mod_lt _ (by decide))]
theorem consts_all : (List.range 24).map (fun i => (constR i (7 * i + 7)).2) = constsL := by decide +kernel
theorem const_at (i : Nat) (h : i < 24) : (constR i (7 * i + 7)).2 = constsL.getD i 0 := by
  rw [← consts_all, List.getD_eq_getElem?_getD, List.getElem?_map, List.getElem?_range h]
  rfl
def roundK (a : Nat → UInt64) (i : Nat) (j : Nat) : UInt64 :=
  let b := fun j => laneC (laneB (laneT (colR a 25) a)) j
  if j = 0 then b 0 ^^^ constsL.getD i 0 else b j
theorem roundP_at (a : Nat → UInt64) (i j : Nat) (hj : j < 25) : roundP a i j = roundK a i j := by
  have h : ∀ j, j < 25 → chiP (rhoP (thetaP (colP a 25) a 25) 24).2 5 j = laneC (laneB (laneT (colR a 25) a)) j := fun j hj => by
    rw [chiP_at, if_pos (by omega)]
    refine laneC_ext (fun k hk => ?_) j hj
    rw [rhoP_at _ _ hk]
    refine laneB_ext (fun m hm => ?_) k hk
    rw [theta_lane _ _ _ hm]
    exact laneT_ext (fun x hx => col_one a x hx) (fun _ _ => rfl) m hm
  show upd _ 0 _ j = _
  unfold roundK upd
  by_cases h0 : j = 0
  · rw [if_pos h0]
    simp only [if_pos h0]
    rw [h 0 (by decide)]
  · rw [if_neg h0]
    simp only [if_neg h0]
    rw [h j hj]
theorem roundR_at (a : Nat → UInt64) (i j : Nat) (hi : i < 24) (hj : j < 25) : roundR a i j = roundK a i j := by
  have h : ∀ j, j < 25 → chiR (rhoR (colR a 25) (turnsR 24).2.2 a 25) 25 j = laneC (laneB (laneT (colR a 25) a)) j := fun j hj => by
    rw [chiR_at _ _ hj]
    exact laneC_ext (fun k hk => rhoR_at _ _ _ hk) j hj
  show upd _ 0 _ j = _
  unfold roundK upd
  by_cases h0 : j = 0
  · rw [if_pos h0]
    simp only [if_pos h0]
    rw [h 0 (by decide), const_at i hi]
  · rw [if_neg h0]
    simp only [if_neg h0]
    rw [h j hj]
theorem colR_ext {a a' : Nat → UInt64} (h : ∀ j, j < 25 → a j = a' j) (n x : Nat) (hn : n ≤ 25) : colR a n x = colR a' n x := by
  induction n generalizing x with
  | zero => rfl
  | succ n ih =>
    unfold colR upd
    rw [ih (n / 5) (by omega), ih x (by omega), h (atR (n / 5) (n % 5)) (by unfold atR; omega)]
theorem roundK_ext {a a' : Nat → UInt64} (h : ∀ j, j < 25 → a j = a' j) (i j : Nat) (hj : j < 25) : roundK a i j = roundK a' i j := by
  have h2 : ∀ j, j < 25 → laneC (laneB (laneT (colR a 25) a)) j = laneC (laneB (laneT (colR a' 25) a')) j := fun j hj =>
    laneC_ext (fun k hk => laneB_ext (fun m hm => laneT_ext (fun x _ => colR_ext h 25 x (Nat.le_refl _)) h m hm) k hk) j hj
  unfold roundK
  by_cases h0 : j = 0
  · simp only [if_pos h0]
    rw [h2 0 (by decide)]
  · simp only [if_neg h0]
    rw [h2 j hj]
theorem perm_one {a a' : Nat → UInt64} (h : ∀ j, j < 25 → a j = a' j) (n j : Nat) (hn : n ≤ 24) (hj : j < 25) : permP a n j = permR a' n j := by
  induction n generalizing j with
  | zero => exact h j hj
  | succ n ih =>
    unfold permP permR
    rw [roundP_at _ _ _ hj, roundR_at _ _ _ (by omega) hj]
    exact roundK_ext (fun k hk => ih k (by omega) hk) n j hj
end Go.Proofs.YtlelgbmbmajfmaaGreatDoor
/- Plain Keccak: a text's digest; a quicker way to reckon it. No program is named. -/
namespace Go.Proofs.YtlelgbmbmajfmaaGreatDoor
open Go.RowKit
def kzeros (s : List UInt8) : List UInt8 := s ++ 1 :: List.replicate ((136 - (s.length + 1) % 136) % 136) 0
def klast (l : List UInt8) : List UInt8 := l.set (l.length - 1) (l.getD (l.length - 1) 0 ^^^ 0x80)
def kpad (s : List UInt8) : List UInt8 := klast (kzeros s)
theorem kpad_length (s : List UInt8) : (kpad s).length = (kzeros s).length := by unfold kpad klast; rw [List.length_set]
def absN (b : List UInt8) (off : Nat) (a : Nat → UInt64) : Nat → Nat → UInt64
  | 0 => a
  | n + 1 => upd (absN b off a n) (n / 8) (absN b off a n (n / 8) ^^^ ((b.getD (off + n) 0).toUInt64 <<< UInt64.ofNat (8 * (n % 8))))
theorem absN_ext {a a' : Nat → UInt64} (b : List UInt8) (off : Nat) (h : ∀ j, j < 25 → a j = a' j) (n j : Nat) (hn : n ≤ 136) (hj : j < 25) : absN b off a n j = absN b off a' n j := by
  induction n generalizing j with
  | zero => exact h j hj
  | succ n ih =>
    unfold absN upd
    rw [ih (n / 8) (by omega) (by omega), ih j (by omega) hj]
def blkP (b : List UInt8) : Nat → Nat → UInt64
  | 0 => zeroL
  | k + 1 => permP (absN b (136 * k) (blkP b k) 136) 24
def blkR (b : List UInt8) : Nat → Nat → UInt64
  | 0 => zeroL
  | k + 1 => permR (absN b (136 * k) (blkR b k) 136) 24
theorem blk_one (b : List UInt8) (k j : Nat) (hj : j < 25) : blkP b k j = blkR b k j := by
  induction k generalizing j with
  | zero => rfl
  | succ k ih =>
    unfold blkP blkR
    exact perm_one (fun i hi => absN_ext b _ (fun m hm => ih m hm) 136 i (Nat.le_refl _) hi) 24 j (Nat.le_refl _) hj
def kout (a : Nat → UInt64) (n : Nat) : List UInt8 := (List.range n).map fun i => (a (i / 8) >>> UInt64.ofNat (8 * (i % 8))).toUInt8
theorem kout_ext {a a' : Nat → UInt64} (h : ∀ j, j < 25 → a j = a' j) : kout a 32 = kout a' 32 := by
  unfold kout
  refine List.map_congr_left (fun i hi => ?_)
  rw [List.mem_range] at hi
  rw [h _ (by omega)]
theorem kout_length (a : Nat → UInt64) (n : Nat) : (kout a n).length = n := by unfold kout; simp
theorem kout_succ (a : Nat → UInt64) (n : Nat) : kout a (n + 1) = kout a n ++ [(a (n / 8) >>> UInt64.ofNat (8 * (n % 8))).toUInt8] := by
  unfold kout
  rw [List.range_succ, List.map_append]
  rfl
def keccakL (s : List UInt8) : List UInt8 := kout (blkR (kpad s) ((kpad s).length / 136)) 32
theorem keccakL_length (s : List UInt8) : (keccakL s).length = 32 := kout_length _ _
theorem keccakL_P (s : List UInt8) : kout (blkP (kpad s) ((kpad s).length / 136)) 32 = keccakL s := kout_ext (fun j hj => blk_one _ _ j hj)
end Go.Proofs.YtlelgbmbmajfmaaGreatDoor
