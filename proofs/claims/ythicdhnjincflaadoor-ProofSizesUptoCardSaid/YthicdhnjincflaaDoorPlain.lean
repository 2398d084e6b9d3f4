/- Plain functions of paths of half bytes, as lists of bytes: no program is named. -/
import Derived.Test.YthicdhnjincflaaDoorKit
import Derived.Lib.SlTrimSet
namespace Go.Proofs.YthicdhnjincflaaDoor
open Go.RowKit

theorem bits_u8_and (a b : UInt8) : bits .and .u8 a.toNat b.toNat = ((a &&& b).toNat : Int) := by
  rw [(bits_nat .u8 8 (by decide) wraps_u8 a.toNat b.toNat a.toNat_lt b.toNat_lt).1]; simp
theorem bits_u8_or (a b : UInt8) : bits .or .u8 a.toNat b.toNat = ((a ||| b).toNat : Int) := by
  rw [(bits_nat .u8 8 (by decide) wraps_u8 a.toNat b.toNat a.toNat_lt b.toNat_lt).2]; simp

/-- the byte of a string at a place -/
theorem byte_at (s : ByteArray) (k : Nat) (h : k < s.size) : s.data.toList[k]? = some s[k] := by
  simp [ByteArray.getElem_eq_getElem_data]
theorem len_data (s : ByteArray) : s.data.toList.length = s.size := rfl
theorem take_snoc (s : ByteArray) (k : Nat) (h : k < s.size) : s.data.toList.take (k + 1) = s.data.toList.take k ++ [s[k]] := by
  rw [List.take_add_one, byte_at s k h]; rfl
theorem take_all (s : ByteArray) (k : Nat) (h : s.size ≤ k) : s.data.toList.take k = s.data.toList := List.take_of_length_le (by rw [len_data]; exact h)

/-- a byte's half bytes, and the byte of two -/
def hiN (b : UInt8) : UInt8 := b >>> (4 : UInt8)
def loN (b : UInt8) : UInt8 := b &&& (15 : UInt8)
def joinN (a b : UInt8) : UInt8 := a <<< (4 : UInt8) ||| b
/-- a text's half bytes -/
def halves (l : List UInt8) : List UInt8 := l.flatMap fun (b : UInt8) => [hiN b, loN b]
theorem halves_append (l r : List UInt8) : halves (l ++ r) = halves l ++ halves r := by simp [halves]
theorem halves_one (b : UInt8) : halves [b] = [hiN b, loN b] := by simp [halves]
theorem halves_nil : halves [] = [] := rfl
theorem halves_length (l : List UInt8) : (halves l).length = 2 * l.length := by
  induction l with
  | nil => rfl
  | cons a l ih =>
    show (halves ([a] ++ l)).length = _
    rw [halves_append, List.length_append, ih, halves_one]; simp; omega
theorem u8_hi (b : UInt8) : (b.toNat : Int) / 16 = ((hiN b).toNat : Int) := by
  unfold hiN
  rw [UInt8.toNat_shiftRight]
  have : (4 : UInt8).toNat % 8 = 4 := rfl
  rw [this, Nat.shiftRight_eq_div_pow]
  omega
theorem u8_lo (b : UInt8) : bits .and .u8 b.toNat 15 = ((loN b).toNat : Int) := bits_u8_and b 15
theorem u8_shl4 (a : UInt8) : IntKind.u8.wrap ((a.toNat : Int) * 16) = ((a <<< (4 : UInt8)).toNat : Int) := by
  rw [UInt8.toNat_shiftLeft, IntKind.wrap_u8]
  have : (4 : UInt8).toNat % 8 = 4 := rfl
  rw [this, Nat.shiftLeft_eq]
  omega
theorem u8_join (a b : UInt8) : bits .or .u8 (IntKind.u8.wrap ((a.toNat : Int) * 16)) b.toNat = ((joinN a b).toNat : Int) := by
  rw [u8_shl4, bits_u8_or]; rfl

/-- how much two lists have alike -/
def common : List UInt8 → List UInt8 → Nat
  | a :: l, b :: r => if a = b then common l r + 1 else 0
  | _, _ => 0
theorem common_full {l r : List UInt8} {k : Nat} (hk : k ≤ l.length) (hk' : k ≤ r.length) (h : ∀ i, i < k → l[i]? = r[i]?) (hend : k = l.length ∨ k = r.length ∨ l[k]? ≠ r[k]?) : common l r = k := by
  induction l generalizing r k with
  | nil => simp at hk; subst hk; simp [common]
  | cons a l ih =>
    cases r with
    | nil => simp at hk'; subst hk'; simp [common]
    | cons b r =>
      simp only [common]
      cases k with
      | zero =>
        have : a ≠ b := by simpa using hend
        simp [this]
      | succ k =>
        have h0 := h 0 (by omega)
        simp at h0; subst h0
        simp
        apply ih
        · simpa using hk
        · simpa using hk'
        · intro i hi; have := h (i+1) (by omega); simpa using this
        · simpa using hend
theorem u8_int_inj {a b : UInt8} (h : (a.toNat : Int) = b.toNat) : a = b := UInt8.toNat_inj.1 (by omega)
theorem alike_succ {l r : ByteArray} {k : Nat} (h : ∀ i, i < k → l.data.toList[i]? = r.data.toList[i]?) (h1 : k < l.size) (h2 : k < r.size) (e : ((l[k].toNat : Int) != r[k].toNat) = false) :
    ∀ i, i < k + 1 → l.data.toList[i]? = r.data.toList[i]? := by
  intro i hi
  by_cases hik : i = k
  · subst hik
    have e' : (l[i].toNat : Int) = r[i].toNat := by simpa using e
    rw [byte_at _ _ h1, byte_at _ _ h2, u8_int_inj e']
  · exact h i (by omega)
theorem common_ne {l r : ByteArray} {k : Nat} (h : ∀ i, i < k → l.data.toList[i]? = r.data.toList[i]?) (h1 : k < l.size) (h2 : k < r.size) (e : ((l[k].toNat : Int) != r[k].toNat) = true) :
    common l.data.toList r.data.toList = k := by
  refine common_full (by rw [len_data]; omega) (by rw [len_data]; omega) h (.inr (.inr ?_))
  have e' : ¬ (l[k].toNat : Int) = r[k].toNat := by simpa using e
  rw [byte_at _ _ h1, byte_at _ _ h2]
  intro he
  exact e' (by rw [Option.some.inj he])
theorem common_end {l r : ByteArray} {k : Nat} (h : ∀ i, i < k → l.data.toList[i]? = r.data.toList[i]?) (h1 : k ≤ l.size) (h2 : k ≤ r.size) (e : ¬ (k < l.size ∧ k < r.size)) :
    common l.data.toList r.data.toList = k :=
  common_full (by rw [len_data]; omega) (by rw [len_data]; omega) h (by rw [len_data, len_data]; omega)
theorem common_le (l r : List UInt8) : common l r ≤ l.length ∧ common l r ≤ r.length := by
  induction l generalizing r with
  | nil => simp [common]
  | cons a l ih =>
    cases r with
    | nil => simp [common]
    | cons b r =>
      simp only [common]
      split
      · have := ih r; simp; omega
      · simp
theorem common_comm (l r : List UInt8) : common l r = common r l := by
  induction l generalizing r with
  | nil => cases r <;> simp [common]
  | cons a l ih =>
    cases r with
    | nil => simp [common]
    | cons b r =>
      simp only [common]
      rw [ih r]
      by_cases h : a = b
      · simp [h]
      · simp [h, Ne.symm h]
theorem common_take (l r : List UInt8) : l.take (common l r) = r.take (common l r) := by
  induction l generalizing r with
  | nil => simp [common]
  | cons a l ih =>
    cases r with
    | nil => simp [common]
    | cons b r =>
      simp only [common]
      split
      · rename_i h; subst h; simp [ih r]
      · simp
theorem common_next (l r : List UInt8) (h1 : common l r < l.length) (h2 : common l r < r.length) : l[common l r]? ≠ r[common l r]? := by
  induction l generalizing r with
  | nil => simp at h1
  | cons a l ih =>
    cases r with
    | nil => simp at h2
    | cons b r =>
      simp only [common] at h1 h2 ⊢
      split
      · rename_i h; subst h
        simp at h1 h2
        simpa using ih r h1 h2
      · rename_i h
        simpa using h
theorem common_ge {l r : List UInt8} {k : Nat} (hk : k ≤ l.length) (hk' : k ≤ r.length) (h : l.take k = r.take k) : k ≤ common l r := by
  induction k generalizing l r with
  | zero => omega
  | succ k ih =>
    cases l with
    | nil => simp at hk
    | cons a l =>
      cases r with
      | nil => simp at hk'
      | cons b r =>
        simp at h
        obtain ⟨rfl, h⟩ := h
        have := @ih l r (by simpa using hk) (by simpa using hk') h
        simp [common]; omega
theorem common_halves (l r : List UInt8) : 2 * common l r ≤ common (halves l) (halves r) := by
  have h := common_take l r
  have hl := common_le l r
  apply common_ge
  · rw [halves_length]; omega
  · rw [halves_length]; omega
  · have e : ∀ x : List UInt8, common l r ≤ x.length → (halves x).take (2 * common l r) = halves (x.take (common l r)) := by
      intro x hx
      conv => lhs; rw [← List.take_append_drop (common l r) x, halves_append]
      rw [List.take_append_of_le_length (by rw [halves_length, List.length_take]; omega)]
      exact List.take_of_length_le (by rw [halves_length, List.length_take]; omega)
    rw [e l (by omega), e r (by omega), h]

/-- is a text a path? -/
def isPath (l : List UInt8) : Bool := l.all fun (b : UInt8) => decide (b.toNat ≤ 15)

/-- two half bytes a byte -/
def pairUp : List UInt8 → List UInt8
  | a :: b :: r => joinN a b :: pairUp r
  | _ => []
/-- the half bytes of a path's form -/
def formHalves (path : List UInt8) (leaf : Bool) : List UInt8 :=
  if path.length % 2 = 1 then (if leaf then 3 else 1) :: path else (if leaf then 2 else 0) :: 0 :: path
/-- a path's form, and the error -/
def form (path : List UInt8) (leaf : Bool) : List UInt8 × Int := if isPath path then (pairUp (formHalves path leaf), 0) else ([], 2)
/-- a form's path, whether it is a leaf's, and the error -/
def read (s : List UInt8) : List UInt8 × Bool × Int :=
  match halves s with
  | m :: z :: r => if m.toNat > 3 ∨ (m.toNat % 2 = 0 ∧ z ≠ 0) then ([], false, 50) else if m.toNat % 2 = 0 then (r, decide (m.toNat = 2), 0) else (z :: r, decide (m.toNat = 3), 0)
  | _ => ([], false, 50)

theorem isPath_false (s : ByteArray) (k : Nat) (h : k < s.size) (e : 15 < (s[k].toNat : Int)) : isPath s.data.toList = false := by
  unfold isPath
  rw [List.all_eq_false]
  refine ⟨s[k], List.mem_of_getElem? (byte_at s k h), ?_⟩
  simp; omega
theorem isPath_true (s : ByteArray) (h : ∀ i (hi : i < s.size), (s[i].toNat : Int) ≤ 15) : isPath s.data.toList = true := by
  unfold isPath
  rw [List.all_eq_true]
  intro b hb
  obtain ⟨i, hi⟩ := List.mem_iff_getElem?.1 hb
  have hlt : i < s.size := by
    have := (List.getElem?_eq_some_iff.1 hi).1
    rwa [len_data] at this
  rw [byte_at s i hlt] at hi
  have := h i hlt
  rw [Option.some.inj hi] at this
  simp; omega
theorem isPath_step {s : ByteArray} {k : Nat} (h : ∀ i (hi : i < s.size), i < k → (s[i].toNat : Int) ≤ 15) (hk : k < s.size) (e : (s[k].toNat : Int) ≤ 15) :
    ∀ i (hi : i < s.size), i < k + 1 → (s[i].toNat : Int) ≤ 15 := by
  intro i hi hlt
  by_cases hik : i = k
  · subst hik; exact e
  · exact h i hi (by omega)

/-- what the two functions hand back -/
def readV (l : List UInt8) : Value := .tuple #[.string ⟨(read l).1.toArray⟩, .bool (read l).2.1, .int .i64 (read l).2.2]
def formV (l : List UInt8) (leaf : Bool) : Value := .tuple #[.string ⟨(form l leaf).1.toArray⟩, .int .i64 (form l leaf).2]

theorem readV_of {l : List UInt8} {p : List UInt8} {q : Bool} {e : Int} (h : read l = (p, q, e)) : readV l = .tuple #[.string ⟨p.toArray⟩, .bool q, .int .i64 e] := by unfold readV; rw [h]
theorem formV_of {l : List UInt8} {leaf : Bool} {p : List UInt8} {e : Int} (h : form l leaf = (p, e)) : formV l leaf = .tuple #[.string ⟨p.toArray⟩, .int .i64 e] := by unfold formV; rw [h]

theorem read_nil {l : List UInt8} (h : halves l = []) : read l = ([], false, 50) := by unfold read; rw [h]
theorem read_of {l : List UInt8} {L : ByteArray} (hL : L.data.toList = halves l) (h2 : 2 ≤ L.size) :
    read l = if L[0].toNat > 3 ∨ (L[0].toNat % 2 = 0 ∧ L[1].toNat ≠ 0) then ([], false, 50) else if L[0].toNat % 2 = 0 then (L.data.toList.drop 2, decide (L[0].toNat = 2), 0) else (L.data.toList.drop 1, decide (L[0].toNat = 3), 0) := by
  have b0 := byte_at L 0 (by omega)
  have b1 := byte_at L 1 (by omega)
  unfold read
  rw [← hL]
  match hl : L.data.toList with
  | [] => rw [hl] at b0; simp at b0
  | [a] => rw [hl] at b1; simp at b1
  | a :: b :: r =>
    rw [hl] at b0 b1
    simp at b0 b1
    subst b0; subst b1
    have e : ∀ b : UInt8, (b ≠ 0) = (b.toNat ≠ 0) := fun b => by
      have : b = 0 ↔ b.toNat = 0 := by rw [← UInt8.toNat_inj]; rfl
      rw [ne_eq, ne_eq, this]
    simp only [e]
    rfl
theorem ext_drop (L : ByteArray) (k : Nat) : L.extract k L.size = ⟨(L.data.toList.drop k).toArray⟩ := by
  apply ByteArray.ext
  apply Array.toList_inj.1
  simp [Array.toList_extract, List.extract_eq_take_drop]
  rw [List.take_of_length_le (by simp)]
theorem pairUp_step {L : List UInt8} {m : Nat} (hm : m % 2 = 0) (h : m + 1 < L.length) : pairUp (L.take (m + 2)) = pairUp (L.take m) ++ [joinN L[m] L[m + 1]] := by
  induction L using pairUp.induct generalizing m with
  | case1 a b r ih =>
    cases m with
    | zero => simp [pairUp]
    | succ m =>
      cases m with
      | zero => omega
      | succ m =>
        have := @ih m (by omega) (by simpa using h)
        simpa [pairUp] using this
  | case2 L hL =>
    match L, hL with
    | [], _ => simp at h
    | [a], _ => simp at h
    | a :: b :: r, hL => exact (hL a b r rfl).elim

/-- the half bytes, as a set of letters -/
def nibSet : List UInt8 := [0, 1, 2, 3, 4, 5, 6, 7, 8, 9, 10, 11, 12, 13, 14, 15]
theorem nibSet_mem (b : UInt8) : nibSet.contains b = decide (b.toNat ≤ 15) := by
  rw [Bool.eq_iff_iff]
  simp only [nibSet, List.contains_cons, List.contains_nil, Bool.or_false, Bool.or_eq_true, beq_iff_eq, decide_eq_true_eq, ← UInt8.toNat_inj]
  have h : ∀ n : Nat, n < 16 → (UInt8.ofNat n).toNat = n := fun n hn => by simp; omega
  constructor
  · rintro (e | e | e | e | e | e | e | e | e | e | e | e | e | e | e | e) <;> rw [e] <;> decide
  · intro hb
    simp
    omega
theorem dropWhile_nil {l : List UInt8} {p : UInt8 → Bool} : l.dropWhile p = [] ↔ l.all p = true := by
  induction l with
  | nil => simp
  | cons a l ih =>
    simp only [List.dropWhile_cons, List.all_cons]
    cases p a <;> simp [ih]
theorem dropWhile_sub {l : List UInt8} {p : UInt8 → Bool} {b : UInt8} (h : b ∈ l) (hb : p b = false) : b ∈ l.dropWhile p := by
  induction l with
  | nil => cases h
  | cons a l ih =>
    simp only [List.dropWhile_cons]
    cases hp : p a with
    | false => exact h
    | true =>
      simp only [if_true]
      rcases List.mem_cons.1 h with rfl | h
      · rw [hp] at hb; cases hb
      · exact ih h
theorem trim_path {l : List UInt8} : (Lib.trimS l nibSet = []) ↔ isPath l = true := by
  have e : (fun b => nibSet.contains b) = fun b : UInt8 => decide (b.toNat ≤ 15) := funext nibSet_mem
  unfold Lib.trimS Lib.trimLeftS Lib.trimRightS isPath
  rw [e, dropWhile_nil]
  constructor
  · intro h
    rw [List.all_eq_true] at h ⊢
    intro b hb
    cases hp : decide (b.toNat ≤ 15) with
    | true => rfl
    | false =>
      exact absurd (h b (List.mem_reverse.2 (dropWhile_sub (p := fun b : UInt8 => decide (b.toNat ≤ 15)) (List.mem_reverse.2 hb) hp))) (by simp [hp])
  · intro h
    have : l.reverse.dropWhile (fun b : UInt8 => decide (b.toNat ≤ 15)) = [] := dropWhile_nil.2 (by rw [List.all_reverse]; exact h)
    rw [this]; rfl
/-- bytes 0 behind what has been made: one is written -/
theorem set_zeros (l : List UInt8) (k n : Nat) (hk : l.length = k) (x : UInt8) : (l ++ List.replicate (n + 1) 0).set k x = (l ++ [x]) ++ List.replicate n 0 := by
  subst hk
  simp [List.replicate_succ]
theorem pairUp_length (L : List UInt8) : (pairUp L).length = L.length / 2 := by
  induction L using pairUp.induct with
  | case1 a b r ih => simp [pairUp, ih]; omega
  | case2 l hl =>
    match l, hl with
    | [], _ => simp [pairUp]
    | [a], _ => simp [pairUp]
    | a :: b :: r, hl => exact (hl a b r rfl).elim
end Go.Proofs.YthicdhnjincflaaDoor
/- Plain numbers as bytes, the highest byte first: no program is named. -/
namespace Go.Proofs.YthicdhnjincflaaDoor
open Go.RowKit

/-- the number of bytes -/
def val (l : List UInt8) : Nat := l.foldl (fun n b => n * 256 + b.toNat) 0
theorem val_snoc (l : List UInt8) (b : UInt8) : val (l ++ [b]) = val l * 256 + b.toNat := by simp [val]
theorem val_nil : val [] = 0 := rfl
theorem foldl_val (l : List UInt8) (a : Nat) : l.foldl (fun n b => n * 256 + b.toNat) a = a * 256 ^ l.length + val l := by
  induction l generalizing a with
  | nil => simp [val]
  | cons b l ih =>
    simp only [List.foldl_cons, val]
    rw [ih, ih, List.length_cons, Nat.pow_succ, Nat.add_mul, Nat.zero_mul, Nat.zero_add]
    rw [Nat.mul_assoc, Nat.mul_comm 256, Nat.add_assoc]
theorem val_cons (b : UInt8) (l : List UInt8) : val (b :: l) = b.toNat * 256 ^ l.length + val l := by
  show l.foldl _ (0 * 256 + b.toNat) = _
  rw [foldl_val]; simp
theorem val_lt (l : List UInt8) : val l < 256 ^ l.length := by
  induction l with
  | nil => simp [val]
  | cons b l ih =>
    rw [val_cons, List.length_cons, Nat.pow_succ]
    have := b.toNat_lt
    calc b.toNat * 256 ^ l.length + val l < b.toNat * 256 ^ l.length + 256 ^ l.length := by omega
      _ = (b.toNat + 1) * 256 ^ l.length := by rw [Nat.add_mul, Nat.one_mul]
      _ ≤ 256 * 256 ^ l.length := Nat.mul_le_mul_right _ (by omega)
      _ = 256 ^ l.length * 256 := Nat.mul_comm _ _
theorem val_append (l r : List UInt8) : val (l ++ r) = val l * 256 ^ r.length + val r := by
  unfold val
  rw [List.foldl_append, foldl_val]; rfl

/-- the low k bytes of a number -/
def be : Nat → Nat → List UInt8
  | 0, _ => []
  | k + 1, n => be k (n / 256) ++ [UInt8.ofNat n]
theorem be_length (k n : Nat) : (be k n).length = k := by
  induction k generalizing n with
  | zero => rfl
  | succ k ih => simp [be, ih]
theorem val_be (k n : Nat) : val (be k n) = n % 256 ^ k := by
  induction k generalizing n with
  | zero => simp [be, val, Nat.mod_one]
  | succ k ih =>
    rw [be, val_snoc, ih, Nat.pow_succ, Nat.mul_comm (256 ^ k), Nat.mod_mul]
    simp
    omega
theorem val_be8 {n : Nat} (h : n < 18446744073709551616) : val (be 8 n) = n := by
  rw [val_be]; exact Nat.mod_eq_of_lt h
theorem be_cons (k n : Nat) : be (k + 1) n = UInt8.ofNat (n / 256 ^ k) :: be k n := by
  induction k generalizing n with
  | zero => simp [be]
  | succ k ih =>
    rw [be, ih (n / 256), be, List.cons_append, Nat.div_div_eq_div_mul, Nat.pow_succ, Nat.mul_comm 256]
/-- strip the bytes 0 ahead -/
def strip (l : List UInt8) : List UInt8 := l.dropWhile (· == 0)
theorem val_strip (l : List UInt8) : val (strip l) = val l := by
  induction l with
  | nil => rfl
  | cons b l ih =>
    unfold strip
    rw [List.dropWhile_cons]
    split
    · rename_i h
      have : b = 0 := by simpa using h
      subst this
      rw [val_cons]
      show val (strip l) = _
      rw [ih]; simp
    · rfl
/-- a number's bytes -/
def num (n : Nat) : List UInt8 := strip (be 8 n)
theorem val_num {n : Nat} (h : n < 18446744073709551616) : val (num n) = n := by rw [num, val_strip, val_be8 h]
theorem strip_length (l : List UInt8) : (strip l).length ≤ l.length := by
  unfold strip
  exact (List.dropWhile_suffix _).length_le
theorem num_length (n : Nat) : (num n).length ≤ 8 := by
  have := strip_length (be 8 n)
  rw [be_length] at this
  exact this
theorem strip_head (l : List UInt8) : (strip l).head? ≠ some 0 := by
  induction l with
  | nil => simp [strip]
  | cons b l ih =>
    unfold strip
    rw [List.dropWhile_cons]
    split
    · exact ih
    · rename_i h
      intro e
      simp at e
      subst e
      simp at h
/-- a list without a byte 0 ahead is found again from its number -/
theorem val_inj {l r : List UInt8} (hl : l.head? ≠ some 0) (hr : r.head? ≠ some 0) (h : val l = val r) : l = r := by
  have len : ∀ {x : List UInt8}, x.head? ≠ some 0 → x ≠ [] → 256 ^ (x.length - 1) ≤ val x := by
    intro x hx hne
    cases x with
    | nil => exact absurd rfl hne
    | cons b x =>
      have hb : b.toNat ≠ 0 := fun e => hx (by simp; exact UInt8.toNat_inj.1 e)
      rw [val_cons, List.length_cons, Nat.add_sub_cancel]
      calc 256 ^ x.length = 1 * 256 ^ x.length := by omega
        _ ≤ b.toNat * 256 ^ x.length := Nat.mul_le_mul_right _ (by omega)
        _ ≤ _ := by omega
  have hlen : l.length = r.length := by
    have key : ∀ {x y : List UInt8}, x.head? ≠ some 0 → y.head? ≠ some 0 → val x = val y → x.length ≤ y.length := by
      intro x y hx _ e
      rcases Nat.lt_or_ge y.length x.length with hlt | hge
      · exfalso
        have h1 := len hx (by intro e0; rw [e0] at hlt; simp at hlt)
        have h2 := val_lt y
        have h3 : 256 ^ y.length ≤ 256 ^ (x.length - 1) := Nat.pow_le_pow_right (by omega) (by omega)
        omega
      · exact hge
    exact Nat.le_antisymm (key hl hr h) (key hr hl h.symm)
  have inj : ∀ {x y : List UInt8}, x.length = y.length → val x = val y → x = y := by
    intro x
    induction x with
    | nil => intro y hy _; cases y with
      | nil => rfl
      | cons b y => simp at hy
    | cons a x ih =>
      intro y hy e
      cases y with
      | nil => simp at hy
      | cons b y =>
        simp only [List.length_cons, Nat.add_right_cancel_iff] at hy
        rw [val_cons, val_cons, hy] at e
        have h1 := val_lt x
        have h2 := val_lt y
        rw [hy] at h1
        have hp : 0 < 256 ^ y.length := Nat.pow_pos (by omega)
        have e1 : a.toNat = b.toNat := by
          have d1 : (a.toNat * 256 ^ y.length + val x) / 256 ^ y.length = a.toNat := by
            rw [Nat.mul_comm, Nat.mul_add_div hp, Nat.div_eq_of_lt h1, Nat.add_zero]
          have d2 : (b.toNat * 256 ^ y.length + val y) / 256 ^ y.length = b.toNat := by
            rw [Nat.mul_comm, Nat.mul_add_div hp, Nat.div_eq_of_lt h2, Nat.add_zero]
          rw [← d1, ← d2, e]
        rw [e1] at e
        rw [UInt8.toNat_inj.1 e1, ih hy (by omega)]
  exact inj hlen h
theorem num_val {l : List UInt8} (hl : l.head? ≠ some 0) (hlen : l.length ≤ 8) : num (val l) = l := by
  have hlt : val l < 18446744073709551616 := Nat.lt_of_lt_of_le (val_lt l) (Nat.pow_le_pow_right (by omega) hlen)
  exact val_inj (strip_head _) hl (val_num hlt)
theorem num_zero : num 0 = [] := by decide
/-- bytes as a number, and the error -/
def value (l : List UInt8) : Nat × Int := if l.length > 8 ∨ l.head? = some 0 then (0, 40) else (val l, 0)
theorem val_lt64 {l : List UInt8} (h : l.length ≤ 8) : val l < 18446744073709551616 := Nat.lt_of_lt_of_le (val_lt l) (Nat.pow_le_pow_right (by omega) h)
/-- the low bytes, once the number is used up: the number's bytes -/
theorem be_num {n k : Nat} (hn : n < 18446744073709551616) (h0 : n / 256 ^ k = 0) (h1 : k = 0 ∨ n / 256 ^ (k - 1) ≠ 0) : be k n = num n := by
  have hlt : n < 256 ^ k := by
    rcases Nat.lt_or_ge n (256 ^ k) with h | h
    · exact h
    · have := Nat.div_pos h (Nat.pow_pos (by omega)); omega
  refine val_inj ?_ (strip_head _) ?_
  · rcases h1 with rfl | h1
    · simp [be]
    · cases k with
      | zero => simp [be]
      | succ k =>
        rw [be_cons]
        simp only [List.head?_cons, ne_eq, Option.some.injEq]
        intro e
        have e' : (n / 256 ^ k) % 256 = 0 := by
          have := congrArg UInt8.toNat e
          simpa using this
        have h2 : n / 256 ^ k < 256 := by
          rw [Nat.div_lt_iff_lt_mul (Nat.pow_pos (by omega)), Nat.mul_comm, ← Nat.pow_succ]
          exact hlt
        rw [Nat.mod_eq_of_lt h2] at e'
        exact h1 (by simpa using e')
  · rw [val_be, val_num hn, Nat.mod_eq_of_lt hlt]
end Go.Proofs.YthicdhnjincflaaDoor

/- Plain items, their bytes, and the items of bytes: no program is named. -/
namespace Go.Proofs.YthicdhnjincflaaDoor
open Go.RowKit

/-- an item: a text, or a list -/
inductive Item where
  | mk (isList : Bool) (text : List UInt8) (list : List Item)
def Item.isList : Item → Bool | .mk b _ _ => b
def Item.text : Item → List UInt8 | .mk _ t _ => t
def Item.list : Item → List Item | .mk _ _ l => l
def Item.none : Item := .mk false [] []

/-- a head ahead of bytes -/
def framed (s : List UInt8) (base : Nat) : List UInt8 :=
  if s.length < 56 then UInt8.ofNat (base + s.length) :: s else UInt8.ofNat (base + 55 + (num s.length).length) :: (num s.length ++ s)
def putText (t : List UInt8) : List UInt8 := if t.length = 1 ∧ (t.headD 0).toNat < 128 then t else framed t 128

mutual
def put : Item → List UInt8
  | .mk b t l => if b then framed (putAll l) 192 else putText t
def putAll : List Item → List UInt8
  | [] => []
  | x :: r => put x ++ putAll r
end
mutual
def deep : Item → Nat → Bool
  | .mk _ _ l, m => if m = 0 then true else deepAny l (m - 1)
def deepAny : List Item → Nat → Bool
  | [], _ => false
  | x :: r, m => deep x m || deepAny r m
end
mutual
def wrong : Item → Bool
  | .mk b t l => if b then (!t.isEmpty || wrongAny l) else !l.isEmpty
def wrongAny : List Item → Bool
  | [] => false
  | x :: r => wrong x || wrongAny r
end
mutual
def same : Item → Item → Bool
  | .mk b t l, y => b == y.isList && t == y.text && sameAll l y.list
def sameAll : List Item → List Item → Bool
  | [], r => r.isEmpty
  | _ :: _, [] => false
  | x :: l, y :: r => same x y && sameAll l r
end
/-- an item's bytes, and the error -/
def encode (x : Item) : List UInt8 × Int :=
  if deep x 12 then ([], 41) else if wrong x then ([], 2) else if (put x).length > 65536 then ([], 42) else (put x, 0)

/-- the first item's inside, whether it is a list, and what is behind it -/
def cut : List UInt8 → Option (List UInt8 × Bool × List UInt8)
  | [] => Option.none
  | c :: rest =>
    if c.toNat < 128 then some ([c], false, rest)
    else if (c.toNat - 128) % 64 > 55 then
      if (c.toNat - 128) % 64 - 55 > rest.length then Option.none
      else if (value (rest.take ((c.toNat - 128) % 64 - 55))).2 ≠ 0 ∨ (value (rest.take ((c.toNat - 128) % 64 - 55))).1 < 56 then Option.none
      else if (value (rest.take ((c.toNat - 128) % 64 - 55))).1 > (rest.drop ((c.toNat - 128) % 64 - 55)).length then Option.none
      else some ((rest.drop ((c.toNat - 128) % 64 - 55)).take (value (rest.take ((c.toNat - 128) % 64 - 55))).1, decide (192 ≤ c.toNat), (rest.drop ((c.toNat - 128) % 64 - 55)).drop (value (rest.take ((c.toNat - 128) % 64 - 55))).1)
    else if (c.toNat - 128) % 64 > rest.length then Option.none
    else if c.toNat < 192 ∧ (c.toNat - 128) % 64 = 1 ∧ (rest.headD 0).toNat < 128 then Option.none
    else some (rest.take ((c.toNat - 128) % 64), decide (192 ≤ c.toNat), rest.drop ((c.toNat - 128) % 64))

theorem cut_short {s inn rest : List UInt8} {b : Bool} (h : cut s = some (inn, b, rest)) : rest.length < s.length ∧ inn.length ≤ s.length ∧ (b = true → inn.length < s.length) := by
  cases s with
  | nil => simp [cut] at h
  | cons c r =>
    rw [cut] at h
    split at h
    · simp only [Option.some.injEq, Prod.mk.injEq] at h
      obtain ⟨rfl, rfl, rfl⟩ := h
      simp
    · split at h
      · split at h
        · simp at h
        · split at h
          · simp at h
          · split at h
            · simp at h
            · simp only [Option.some.injEq, Prod.mk.injEq] at h
              obtain ⟨rfl, _, rfl⟩ := h
              simp only [List.length_take, List.length_drop, List.length_cons]
              omega
      · split at h
        · simp at h
        · split at h
          · simp at h
          · simp only [Option.some.injEq, Prod.mk.injEq] at h
            obtain ⟨rfl, _, rfl⟩ := h
            simp only [List.length_take, List.length_drop, List.length_cons]
            omega

/-- items, one behind the other -/
def parse : Nat → List UInt8 → Option (List Item)
  | 0, _ => Option.none
  | f + 1, s =>
    if s = [] then some []
    else match cut s with
      | Option.none => Option.none
      | some (inn, b, rest) =>
        match (if b then (parse f inn).map (Item.mk true []) else some (Item.mk false inn [])) with
        | Option.none => Option.none
        | some x => (parse f rest).map (x :: ·)
theorem parse_fuel (f g : Nat) (s : List UInt8) (hf : s.length < f) (hg : s.length < g) : parse f s = parse g s := by
  induction f generalizing g s with
  | zero => omega
  | succ f ih =>
    cases g with
    | zero => omega
    | succ g =>
      unfold parse
      split
      · rfl
      · rename_i hne
        cases hc : cut s with
        | none => rfl
        | some q =>
          obtain ⟨inn, b, rest⟩ := q
          have hs := cut_short hc
          dsimp only
          cases b with
          | false =>
            rw [ih g rest (by omega) (by omega)]
            rfl
          | true =>
            have := hs.2.2 rfl
            rw [ih g inn (by omega) (by omega), ih g rest (by omega) (by omega)]
def all (s : List UInt8) : Option (List Item) := parse (s.length + 1) s
/-- the first item, and what is behind it -/
def first (s : List UInt8) : Option (Item × List UInt8) :=
  match cut s with
  | Option.none => Option.none
  | some (inn, b, rest) => if b then (all inn).map fun l => (Item.mk true [] l, rest) else some (Item.mk false inn [], rest)
theorem all_nil : all [] = some [] := rfl
theorem all_step {s : List UInt8} (h : s ≠ []) : all s = match first s with
    | Option.none => Option.none
    | some (x, rest) => (all rest).map (x :: ·) := by
  unfold all first
  conv => lhs; unfold parse
  rw [if_neg h]
  cases hc : cut s with
  | none => rfl
  | some q =>
    obtain ⟨inn, b, rest⟩ := q
    have hs := cut_short hc
    dsimp only
    cases b with
    | false =>
      simp only [Bool.false_eq_true, if_false]
      rw [parse_fuel s.length (rest.length + 1) rest (by omega) (by omega)]
    | true =>
      have := hs.2.2 rfl
      simp only [if_true]
      rw [parse_fuel s.length (inn.length + 1) inn (by omega) (by omega)]
      cases hi : parse (inn.length + 1) inn with
      | none =>
        have : all inn = Option.none := hi
        rw [this]; rfl
      | some l =>
        have : all inn = some l := hi
        rw [this]
        simp only [Option.map_some]
        rw [parse_fuel s.length (rest.length + 1) rest (by omega) (by omega)]
/-- the item of bytes, and the error -/
def decode (s : List UInt8) : Item × Int :=
  if s.length > 65536 then (.none, 42)
  else match all s with
    | some [x] => if deep x 12 then (.none, 41) else (x, 0)
    | _ => (.none, 40)
end Go.Proofs.YthicdhnjincflaaDoor

/- Plain items: how many there are in one, and what the recursive functions give of a list. -/
namespace Go.Proofs.YthicdhnjincflaaDoor
open Go.RowKit

mutual
def Item.size : Item → Nat
  | .mk _ _ l => sizeAll l + 1
def sizeAll : List Item → Nat
  | [] => 0
  | x :: r => x.size + sizeAll r
end
theorem Item.size_eq (x : Item) : x.size = sizeAll x.list + 1 := by cases x; rfl
theorem Item.size_pos (x : Item) : 0 < x.size := by rw [Item.size_eq]; omega
theorem sizeAll_length (l : List Item) : l.length ≤ sizeAll l := by
  induction l with
  | nil => simp [sizeAll]
  | cons x r ih => have := x.size_pos; simp [sizeAll]; omega
theorem size_mem {l : List Item} {i : Nat} {x : Item} (h : l[i]? = some x) : x.size ≤ sizeAll l := by
  induction l generalizing i with
  | nil => simp at h
  | cons y r ih =>
    cases i with
    | zero => simp at h; subst h; simp [sizeAll]
    | succ i => have := ih (i := i) (by simpa using h); simp [sizeAll]; omega
theorem size_child {x y : Item} {i : Nat} (h : x.list[i]? = some y) : y.size < x.size := by
  have := size_mem h
  rw [Item.size_eq x]; omega
theorem length_lt_size (x : Item) : x.list.length < x.size := by
  have := sizeAll_length x.list
  rw [Item.size_eq]; omega
theorem sizeAll_take_succ {l : List Item} {k : Nat} {x : Item} (h : l[k]? = some x) : sizeAll (l.take (k + 1)) = sizeAll (l.take k) + x.size := by
  induction l generalizing k with
  | nil => simp at h
  | cons y r ih =>
    cases k with
    | zero => simp at h; subst h; simp [sizeAll]
    | succ k => have := ih (k := k) (by simpa using h); simp [sizeAll, this]; omega
theorem sizeAll_take_le (l : List Item) (k : Nat) : sizeAll (l.take k) ≤ sizeAll l := by
  induction l generalizing k with
  | nil => simp [sizeAll]
  | cons y r ih =>
    cases k with
    | zero => simp [sizeAll]
    | succ k => have := ih k; simp [sizeAll]; omega

theorem deepAny_any (l : List Item) (m : Nat) : deepAny l m = l.any fun x => deep x m := by
  induction l with
  | nil => rfl
  | cons x r ih => rw [deepAny, ih]; rfl
theorem wrongAny_any (l : List Item) : wrongAny l = l.any wrong := by
  induction l with
  | nil => rfl
  | cons x r ih => rw [wrongAny, ih]; rfl
theorem deep_eq (x : Item) (m : Nat) : deep x m = if m = 0 then true else x.list.any fun y => deep y (m - 1) := by
  cases x with
  | mk b t l =>
    rw [deep, deepAny_any]; rfl
theorem wrong_eq (x : Item) : wrong x = if x.isList then (!x.text.isEmpty || x.list.any wrong) else !x.list.isEmpty := by
  cases x with
  | mk b t l => rw [wrong, wrongAny_any]; rfl
theorem sameAll_length {l r : List Item} (h : sameAll l r = true) : l.length = r.length := by
  induction l generalizing r with
  | nil => cases r with
    | nil => rfl
    | cons y r => simp [sameAll] at h
  | cons x l ih =>
    cases r with
    | nil => simp [sameAll] at h
    | cons y r =>
      simp only [sameAll, Bool.and_eq_true] at h
      simp [ih h.2]
theorem sameAll_at (l r : List Item) (hlen : l.length = r.length) : sameAll l r = true ↔ ∀ (i : Nat) (x y : Item), l[i]? = some x → r[i]? = some y → same x y = true := by
  induction l generalizing r with
  | nil => cases r with
    | nil => simp [sameAll]
    | cons y r => simp at hlen
  | cons a l ih =>
    cases r with
    | nil => simp at hlen
    | cons b r =>
      simp only [sameAll, Bool.and_eq_true]
      rw [ih r (by simpa using hlen)]
      constructor
      · rintro ⟨h1, h2⟩ i x y hx hy
        cases i with
        | zero => simp at hx hy; subst hx; subst hy; exact h1
        | succ i => exact h2 i x y (by simpa using hx) (by simpa using hy)
      · intro h
        exact ⟨h 0 a b rfl rfl, fun i x y hx hy => h (i + 1) x y (by simpa using hx) (by simpa using hy)⟩
theorem same_eq (x y : Item) : same x y = (x.isList == y.isList && x.text == y.text && sameAll x.list y.list) := by
  cases x; rfl
mutual
theorem same_sound : ∀ (x y : Item), same x y = true → x = y
  | .mk b t l, .mk b' t' l', h => by
    simp only [same, Bool.and_eq_true, beq_iff_eq, Item.isList, Item.text, Item.list] at h
    obtain ⟨⟨rfl, rfl⟩, h3⟩ := h
    rw [sameAll_sound l l' h3]
theorem sameAll_sound : ∀ (l r : List Item), sameAll l r = true → l = r
  | [], [], _ => rfl
  | [], _ :: _, h => by simp [sameAll] at h
  | _ :: _, [], h => by simp [sameAll] at h
  | x :: l, y :: r, h => by
    simp only [sameAll, Bool.and_eq_true] at h
    rw [same_sound x y h.1, sameAll_sound l r h.2]
end
mutual
theorem same_refl : ∀ (x : Item), same x x = true
  | .mk b t l => by
    simp only [same, Bool.and_eq_true, beq_iff_eq, Item.isList, Item.text, Item.list]
    exact ⟨⟨trivial, trivial⟩, sameAll_refl l⟩
theorem sameAll_refl : ∀ (l : List Item), sameAll l l = true
  | [] => rfl
  | x :: l => by
    simp only [sameAll, Bool.and_eq_true]
    exact ⟨same_refl x, sameAll_refl l⟩
end
theorem same_iff (x y : Item) : same x y = true ↔ x = y := ⟨same_sound x y, fun h => h ▸ same_refl x⟩
/-- how many more might be counted; below 0: there are more -/
def cnt (x : Item) (left : Nat) : Int := if x.size ≤ left then (left : Int) - x.size else -1
end Go.Proofs.YthicdhnjincflaaDoor

/- Plain items: what is written is read as it was, and what is read is written so again. No program is named. -/
namespace Go.Proofs.YthicdhnjincflaaDoor
open Go.RowKit

theorem headByte {n : Nat} (h : n < 256) : (UInt8.ofNat n).toNat = n := by
  rw [UInt8.toNat_ofNat']; exact Nat.mod_eq_of_lt h
theorem value_num {n : Nat} (h : n < 18446744073709551616) : value (num n) = (n, 0) := by
  unfold value
  have h1 := num_length n
  have h2 : ¬ ((num n).length > 8 ∨ (num n).head? = some 0) := by
    rintro (e | e)
    · omega
    · exact strip_head (be 8 n) e
  rw [if_neg h2, val_num h]
theorem num_pos {n : Nat} (h : n < 18446744073709551616) (h0 : 0 < n) : 0 < (num n).length := by
  cases hx : num n with
  | nil =>
    have := val_num h
    rw [hx] at this
    simp [val_nil] at this
    omega
  | cons c r => simp
theorem take_app (a b : List UInt8) : (a ++ b).take a.length = a := by simp
theorem drop_app (a b : List UInt8) : (a ++ b).drop a.length = b := by simp

theorem cut_framed (s rest : List UInt8) (base : Nat) (hb : base = 128 ∨ base = 192) (hs : s.length < 9223372036854775808) (h1 : base = 128 → ¬ (s.length = 1 ∧ (s.headD 0).toNat < 128)) :
    cut (framed s base ++ rest) = some (s, decide (base = 192), rest) := by
  unfold framed
  by_cases hl : s.length < 56
  · rw [if_pos hl, List.cons_append, cut, headByte (by omega)]
    have e : (base + s.length - 128) % 64 = s.length := by omega
    rw [if_neg (by omega), e, if_neg (by omega), if_neg (by simp), if_neg ?_, take_app, drop_app]
    · rcases hb with rfl | rfl <;> simp <;> omega
    · rintro ⟨c1, c2, c3⟩
      refine h1 (by omega) ⟨c2, ?_⟩
      obtain ⟨c, rfl⟩ := List.length_eq_one_iff.1 c2
      exact c3
  · have h8 := num_length s.length
    have h0 := num_pos (n := s.length) (by omega) (by omega)
    rw [if_neg hl, List.cons_append, cut, headByte (by omega)]
    have e : (base + 55 + (num s.length).length - 128) % 64 = 55 + (num s.length).length := by omega
    rw [if_neg (by omega), e, if_pos (by omega), Nat.add_sub_cancel_left, List.append_assoc, if_neg (by simp), take_app, drop_app, value_num (by omega), if_neg (by simp; omega), if_neg (by simp), take_app, drop_app]
    rcases hb with rfl | rfl <;> simp <;> omega
theorem cut_put_text (t rest : List UInt8) (hs : t.length < 9223372036854775808) : cut (putText t ++ rest) = some (t, false, rest) := by
  unfold putText
  split
  · rename_i h
    match t, h with
    | [c], h =>
      have : c.toNat < 128 := h.2
      rw [List.cons_append, List.nil_append, cut, if_pos this]
  · rename_i h
    rw [cut_framed t rest 128 (.inl rfl) hs (fun _ => h)]
    rfl
theorem framed_ne (s : List UInt8) (b : Nat) : framed s b ≠ [] := by
  unfold framed
  split <;> simp
theorem put_ne (x : Item) : put x ≠ [] := by
  cases x with
  | mk b t l =>
    simp only [put]
    split
    · exact framed_ne _ _
    · unfold putText
      split
      · rename_i h
        intro e
        rw [e] at h
        simp at h
      · exact framed_ne _ _
theorem framed_ge (s : List UInt8) (b : Nat) : s.length ≤ (framed s b).length := by
  unfold framed
  split <;> simp
  omega
theorem putText_ge (t : List UInt8) : t.length ≤ (putText t).length := by
  unfold putText
  split
  · omega
  · exact framed_ge _ _
theorem putAll_append (l r : List Item) : putAll (l ++ r) = putAll l ++ putAll r := by
  induction l with
  | nil => rfl
  | cons x l ih => simp only [List.cons_append, putAll, ih, List.append_assoc]
/-- what is written is read as it was -/
theorem all_put (n : Nat) : (∀ (x : Item) (rest : List UInt8), x.size ≤ n → wrong x = false → (put x).length < 9223372036854775808 → first (put x ++ rest) = some (x, rest)) ∧
    (∀ (l : List Item), sizeAll l ≤ n → wrongAny l = false → (putAll l).length < 9223372036854775808 → all (putAll l) = some l) := by
  induction n with
  | zero =>
    refine ⟨fun x _ h => by have := x.size_pos; omega, fun l h _ _ => ?_⟩
    cases l with
    | nil => rfl
    | cons x r => have := x.size_pos; simp [sizeAll] at h; omega
  | succ n ih =>
    have hfirst : ∀ (x : Item) (rest : List UInt8), x.size ≤ n + 1 → wrong x = false → (put x).length < 9223372036854775808 → first (put x ++ rest) = some (x, rest) := by
      intro x rest hx hw hp
      cases x with
      | mk b t l =>
        simp only [Item.size] at hx
        cases b with
        | true =>
          simp only [wrong, if_true, Bool.or_eq_false_iff, Bool.not_eq_false'] at hw
          have ht : t = [] := by simpa using hw.1
          subst ht
          simp only [put, if_true] at hp ⊢
          have hg := framed_ge (putAll l) 192
          unfold first
          rw [cut_framed _ _ 192 (.inr rfl) (by omega) (fun h => by omega)]
          simp only [decide_true, if_true]
          rw [ih.2 l (by omega) hw.2 (by omega)]
          rfl
        | false =>
          simp only [wrong, Bool.false_eq_true, if_false, Bool.not_eq_false'] at hw
          have hl : l = [] := by simpa using hw
          subst hl
          simp only [put, Bool.false_eq_true, if_false] at hp ⊢
          have hg := putText_ge t
          unfold first
          rw [cut_put_text _ _ (by omega)]
          rfl
    refine ⟨hfirst, ?_⟩
    intro l
    induction l with
    | nil => exact fun _ _ _ => rfl
    | cons x r ihr =>
      intro hs hw hp
      simp only [sizeAll] at hs
      simp only [wrongAny, Bool.or_eq_false_iff] at hw
      simp only [putAll, List.length_append] at hp
      have hx := x.size_pos
      have hne : putAll (x :: r) ≠ [] := by
        simp only [putAll]
        intro e
        exact put_ne x (List.append_eq_nil_iff.1 e).1
      rw [all_step hne]
      simp only [putAll]
      rw [hfirst x _ (by omega) hw.1 (by omega)]
      dsimp only
      rw [ih.2 r (by omega) hw.2 (by omega)]
      rfl
theorem first_put (x : Item) (rest : List UInt8) (hw : wrong x = false) (hp : (put x).length < 9223372036854775808) : first (put x ++ rest) = some (x, rest) := (all_put x.size).1 x rest (Nat.le_refl _) hw hp
theorem all_putAll (l : List Item) (hw : wrongAny l = false) (hp : (putAll l).length < 9223372036854775808) : all (putAll l) = some l := (all_put (sizeAll l)).2 l (Nat.le_refl _) hw hp

/-- what the first item's bytes are, once it is cut -/
theorem cut_back {s inn rest : List UInt8} {b : Bool} (h : cut s = some (inn, b, rest)) (hs : s.length < 9223372036854775808) : s = (if b then framed inn 192 else putText inn) ++ rest := by
  cases s with
  | nil => simp [cut] at h
  | cons c r =>
    have hc := c.toNat_lt
    have ec : UInt8.ofNat c.toNat = c := by simp
    rw [cut] at h
    split at h
    · rename_i h1
      simp only [Option.some.injEq, Prod.mk.injEq] at h
      obtain ⟨rfl, rfl, rfl⟩ := h
      simp [putText, h1]
    · rename_i h1
      obtain ⟨n, hn⟩ : ∃ n, (c.toNat - 128) % 64 = n := ⟨_, rfl⟩
      rw [hn] at h
      have hb : c.toNat = (if 192 ≤ c.toNat then 192 else 128) + n := by split <;> omega
      split at h
      · rename_i h2
        split at h
        · simp at h
        · rename_i h3
          split at h
          · simp at h
          · rename_i h4
            split at h
            · simp at h
            · rename_i h5
              simp only [Option.some.injEq, Prod.mk.injEq] at h
              obtain ⟨rfl, rfl, rfl⟩ := h
              obtain ⟨k, hk⟩ : ∃ k, n - 55 = k := ⟨_, rfl⟩
              rw [hk] at h3 h4 h5 ⊢
              have hv : (value (r.take k)).2 = 0 ∧ 56 ≤ (value (r.take k)).1 := by
                refine ⟨?_, ?_⟩
                · rcases Classical.em ((value (r.take k)).2 = 0) with h | h
                  · exact h
                  · exact absurd (.inl h) h4
                · rcases Nat.lt_or_ge (value (r.take k)).1 56 with h | h
                  · exact absurd (.inr h) h4
                  · exact h
              obtain ⟨hv1, hv2⟩ := hv
              have hgood : ¬ ((r.take k).length > 8 ∨ (r.take k).head? = some 0) := by
                intro e
                unfold value at hv1
                rw [if_pos e] at hv1
                simp at hv1
              have hval : (value (r.take k)).1 = val (r.take k) := by unfold value; rw [if_neg hgood]
              rw [hval] at h5 hv2 ⊢
              have hnum : num (val (r.take k)) = r.take k := num_val (fun e => hgood (.inr e)) (by
                rcases Nat.lt_or_ge 8 (r.take k).length with h | h
                · exact absurd (.inl h) hgood
                · exact h)
              have hlen : (r.take k).length = k := by rw [List.length_take]; omega
              have hil : ((r.drop k).take (val (r.take k))).length = val (r.take k) := by rw [List.length_take]; omega
              have hfr : ∀ base, base + 55 + k = c.toNat → framed ((r.drop k).take (val (r.take k))) base ++ (r.drop k).drop (val (r.take k)) = c :: r := by
                intro base hbase
                unfold framed
                rw [hil, if_neg (by omega), hnum, hlen, hbase, ec]
                simp only [List.cons_append, List.append_assoc, List.take_append_drop]
              by_cases h6 : 192 ≤ c.toNat
              · rw [if_pos h6] at hb
                rw [if_pos (by simpa using h6)]
                exact (hfr 192 (by omega)).symm
              · rw [if_neg h6] at hb
                rw [if_neg (by simpa using h6)]
                have hpt : putText ((r.drop k).take (val (r.take k))) = framed ((r.drop k).take (val (r.take k))) 128 := by
                  unfold putText
                  rw [if_neg (by omega)]
                rw [hpt]
                exact (hfr 128 (by omega)).symm
      · rename_i h2
        split at h
        · simp at h
        · rename_i h3
          split at h
          · simp at h
          · rename_i h4
            simp only [Option.some.injEq, Prod.mk.injEq] at h
            obtain ⟨rfl, rfl, rfl⟩ := h
            have hil : (r.take n).length = n := by rw [List.length_take]; omega
            have hfr : ∀ base, base + n = c.toNat → framed (r.take n) base ++ r.drop n = c :: r := by
              intro base hbase
              unfold framed
              rw [hil, if_pos (by omega), hbase, ec]
              simp only [List.cons_append, List.take_append_drop]
            by_cases h6 : 192 ≤ c.toNat
            · rw [if_pos h6] at hb
              rw [if_pos (by simpa using h6)]
              exact (hfr 192 (by omega)).symm
            · rw [if_neg h6] at hb
              rw [if_neg (by simpa using h6)]
              have hpt : putText (r.take n) = framed (r.take n) 128 := by
                unfold putText
                rw [if_neg]
                rintro ⟨e1, e2⟩
                refine h4 ⟨by omega, by omega, ?_⟩
                match r, n, hil, e1, e2 with
                | c' :: r', n + 1, _, _, e2 => simpa using e2
                | [], n, hil, e1, _ => simp at e1
                | _ :: _, 0, _, e1, _ => simp at e1
              rw [hpt]
              exact (hfr 128 (by omega)).symm
/-- what is read is written so again, and is right -/
theorem all_back (n : Nat) : (∀ (s : List UInt8) (x : Item) (rest : List UInt8), s.length ≤ n → s.length < 9223372036854775808 → first s = some (x, rest) → s = put x ++ rest ∧ wrong x = false) ∧
    (∀ (s : List UInt8) (l : List Item), s.length ≤ n → s.length < 9223372036854775808 → all s = some l → s = putAll l ∧ wrongAny l = false) := by
  induction n with
  | zero =>
    refine ⟨fun s x rest h _ hf => ?_, fun s l h _ ha => ?_⟩
    · obtain rfl : s = [] := List.length_eq_zero_iff.1 (by omega)
      cases hf
    · obtain rfl : s = [] := List.length_eq_zero_iff.1 (by omega)
      cases ha
      exact ⟨rfl, rfl⟩
  | succ n ih =>
    have hfirst : ∀ (s : List UInt8) (x : Item) (rest : List UInt8), s.length ≤ n + 1 → s.length < 9223372036854775808 → first s = some (x, rest) → s = put x ++ rest ∧ wrong x = false := by
      intro s x rest hs hs2 hf
      unfold first at hf
      cases hc : cut s with
      | none => rw [hc] at hf; cases hf
      | some q =>
        obtain ⟨inn, b, r⟩ := q
        have h1 := cut_back hc hs2
        have h2 := cut_short hc
        rw [hc] at hf
        dsimp only at hf
        cases b with
        | false =>
          simp only [Bool.false_eq_true, if_false, Option.some.injEq, Prod.mk.injEq] at hf h1
          obtain ⟨rfl, rfl⟩ := hf
          refine ⟨?_, rfl⟩
          simp only [put, Bool.false_eq_true, if_false]
          exact h1
        | true =>
          simp only [if_true] at hf h1
          cases ha : all inn with
          | none => rw [ha] at hf; cases hf
          | some l =>
            rw [ha] at hf
            simp only [Option.map_some, Option.some.injEq, Prod.mk.injEq] at hf
            obtain ⟨rfl, rfl⟩ := hf
            have h3 := h2.2.2 rfl
            obtain ⟨h4, h5⟩ := ih.2 inn l (by omega) (by omega) ha
            refine ⟨?_, ?_⟩
            · simp only [put, if_true]
              rw [← h4]
              exact h1
            · simp only [wrong, if_true, h5]
              rfl
    refine ⟨hfirst, ?_⟩
    intro s l hs hs2 ha
    by_cases hne : s = []
    · subst hne
      cases ha
      exact ⟨rfl, rfl⟩
    · rw [all_step hne] at ha
      cases hf : first s with
      | none => rw [hf] at ha; cases ha
      | some q =>
        obtain ⟨x, rest⟩ := q
        rw [hf] at ha
        dsimp only at ha
        obtain ⟨h1, h2⟩ := hfirst s x rest hs hs2 hf
        have hlen : (put x).length + rest.length = s.length := by rw [h1, List.length_append]
        have hp : 0 < (put x).length := List.length_pos_iff.2 (put_ne x)
        cases hr : all rest with
        | none => rw [hr] at ha; cases ha
        | some ys =>
          rw [hr] at ha
          cases ha
          obtain ⟨h3, h4⟩ := ih.2 rest ys (by omega) (by omega) hr
          refine ⟨?_, ?_⟩
          · simp only [putAll]
            rw [← h3]
            exact h1
          · simp only [wrongAny, h2, h4]
            rfl
theorem all_is {s : List UInt8} {l : List Item} (hs : s.length < 9223372036854775808) (h : all s = some l) : s = putAll l ∧ wrongAny l = false := (all_back s.length).2 s l (Nat.le_refl _) hs h

/-- an item's bytes are read as the item -/
theorem decode_encode {x : Item} {s : List UInt8} (h : encode x = (s, 0)) : decode s = (x, 0) := by
  unfold encode at h
  split at h
  · cases h
  · rename_i hd
    split at h
    · cases h
    · rename_i hw
      split at h
      · cases h
      · rename_i hl
        cases h
        have h1 := first_put x [] (by simpa using hw) (by omega)
        rw [List.append_nil] at h1
        unfold decode
        rw [if_neg hl, all_step (put_ne x), h1]
        simp only [all_nil, Option.map_some]
        rw [if_neg hd]
/-- bytes that are read are written so again -/
theorem encode_decode {x : Item} {s : List UInt8} (h : decode s = (x, 0)) : encode x = (s, 0) := by
  unfold decode at h
  split at h
  · cases h
  · rename_i hl
    split at h
    · rename_i y ha
      split at h
      · cases h
      · rename_i hd
        cases h
        obtain ⟨h1, h2⟩ := all_is (by omega) ha
        simp only [putAll, List.append_nil] at h1
        simp only [wrongAny, Bool.or_false] at h2
        unfold encode
        rw [if_neg hd, h2, if_neg (by simp), ← h1, if_neg hl]
    · cases h
theorem encode_ok {x : Item} {s : List UInt8} (h : encode x = (s, 0)) : s = put x ∧ wrong x = false ∧ deep x 12 = false ∧ s.length ≤ 65536 := by
  unfold encode at h
  split at h
  · cases h
  · rename_i hd
    split at h
    · cases h
    · rename_i hw
      split at h
      · cases h
      · rename_i hl
        cases h
        exact ⟨rfl, by simpa using hw, by simpa using hd, by omega⟩
/-- bytes of an item with more behind them are none -/
theorem decode_behind {x : Item} {s more : List UInt8} (h : encode x = (s, 0)) (hm : more ≠ []) (hl : s.length + more.length ≤ 65536) : decode (s ++ more) = (.none, 40) := by
  obtain ⟨rfl, hw, _, hs⟩ := encode_ok h
  unfold decode
  rw [if_neg (by rw [List.length_append]; omega), all_step (by simp [put_ne]), first_put x more hw (by omega)]
  dsimp only
  cases hr : all more with
  | none => rfl
  | some ys =>
    cases ys with
    | nil =>
      have := (all_is (by omega) hr).1
      exact absurd this hm
    | cons y r => rfl
/-- bytes of an item, one less, are none -/
theorem decode_less {x : Item} {s : List UInt8} (h : encode x = (s, 0)) : decode (s.take (s.length - 1)) = (.none, 40) := by
  obtain ⟨rfl, hw, _, hs⟩ := encode_ok h
  have hne := put_ne x
  have hpos : 0 < (put x).length := List.length_pos_iff.2 hne
  unfold decode
  rw [if_neg (by rw [List.length_take]; omega)]
  split
  · rename_i y ha
    exfalso
    obtain ⟨h1, h2⟩ := all_is (by rw [List.length_take]; omega) ha
    simp only [putAll, List.append_nil] at h1
    simp only [wrongAny, Bool.or_false] at h2
    have h3 : put x = put y ++ (put x).drop ((put x).length - 1) := by rw [← h1, List.take_append_drop]
    have hyl : (put y).length ≤ (put x).length := by rw [← h1, List.length_take]; omega
    have h4 := first_put y ((put x).drop ((put x).length - 1)) h2 (by omega)
    rw [← h3] at h4
    have h5 := first_put x [] hw (by omega)
    rw [List.append_nil, h4] at h5
    simp only [Option.some.injEq, Prod.mk.injEq] at h5
    have := congrArg List.length h5.2
    rw [List.length_drop] at this
    simp at this
    omega
  · rfl
end Go.Proofs.YthicdhnjincflaaDoor

/- Plain items: what is deep, and the bytes of a list of one or two. No program is named. -/
namespace Go.Proofs.YthicdhnjincflaaDoor
open Go.RowKit

mutual
theorem deep_mono : ∀ (x : Item) (m : Nat), deep x (m + 1) = true → deep x m = true
  | .mk _ _ l, 0, _ => by simp [deep]
  | .mk _ _ l, m + 1, h => by
    simp only [deep, Nat.add_eq_zero_iff, Nat.succ_ne_self, and_false, if_false, Nat.add_sub_cancel] at h ⊢
    exact deepAny_mono l m h
theorem deepAny_mono : ∀ (l : List Item) (m : Nat), deepAny l (m + 1) = true → deepAny l m = true
  | [], _, h => by simp [deepAny] at h
  | x :: r, m, h => by
    simp only [deepAny, Bool.or_eq_true] at h ⊢
    rcases h with h | h
    · exact .inl (deep_mono x m h)
    · exact .inr (deepAny_mono r m h)
end
theorem framed_drop (s : List UInt8) (b : Nat) : s.length < (framed s b).length ∧ (framed s b).drop ((framed s b).length - s.length) = s := by
  unfold framed
  split
  · refine ⟨by simp, ?_⟩
    rw [List.length_cons, Nat.add_sub_cancel_left]
    rfl
  · refine ⟨by simp; omega, ?_⟩
    have e : (UInt8.ofNat (b + 55 + (num s.length).length) :: (num s.length ++ s)).length - s.length = (num s.length).length + 1 := by simp; omega
    rw [e, List.drop_succ_cons, List.drop_left]
theorem encode_good {x : Item} (h : deep x 12 = false) (h2 : wrong x = false) (h3 : (put x).length ≤ 65536) : encode x = (put x, 0) := by
  unfold encode
  rw [h, h2, if_neg (by simp), if_neg (by simp), if_neg (by omega)]
/-- the bytes of a list of one end with that one's -/
theorem encode_wrap {x : Item} {s : List UInt8} (h : encode (.mk true [] [x]) = (s, 0)) : ∃ a, encode x = (a, 0) ∧ a.length < s.length ∧ s.drop (s.length - a.length) = a := by
  obtain ⟨h1, h2, h3, h4⟩ := encode_ok h
  have e : putAll [x] = put x := by simp [putAll]
  simp only [put, if_true, e] at h1
  subst h1
  obtain ⟨q1, q2⟩ := framed_drop (put x) 192
  have hw : wrong x = false := by
    simp only [wrong, wrongAny, if_true, Bool.or_false] at h2
    simpa using h2
  have hd : deep x 12 = false := by
    simp only [deep, deepAny, Bool.or_false] at h3
    cases hx : deep x 12 with
    | false => rfl
    | true => have h5 := deep_mono x 11 hx; simp [h5] at h3
  exact ⟨put x, encode_good hd hw (by omega), q1, q2⟩
theorem encode_wrap2 {x y : Item} {a b t : List UInt8} (hx : encode x = (a, 0)) (hy : encode y = (b, 0)) (h : encode (.mk true [] [x, y]) = (t, 0)) : a.length + b.length < t.length ∧ t.drop (t.length - a.length - b.length) = a ++ b := by
  obtain ⟨h1, _, _, _⟩ := encode_ok h
  obtain ⟨rfl, _, _, _⟩ := encode_ok hx
  obtain ⟨rfl, _, _, _⟩ := encode_ok hy
  have e : putAll [x, y] = put x ++ put y := by simp [putAll]
  simp only [put, if_true, e] at h1
  subst h1
  obtain ⟨q1, q2⟩ := framed_drop (put x ++ put y) 192
  rw [List.length_append] at q1 q2
  exact ⟨q1, by rw [Nat.sub_sub]; exact q2⟩
theorem same_comm (x y : Item) : same x y = same y x := by
  rw [Bool.eq_iff_iff, same_iff, same_iff]
  exact ⟨Eq.symm, Eq.symm⟩
end Go.Proofs.YthicdhnjincflaaDoor
