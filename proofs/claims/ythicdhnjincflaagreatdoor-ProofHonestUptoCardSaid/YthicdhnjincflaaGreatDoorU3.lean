/- What the walks take: Plain, KecQ. -/
import Derived.Test.YthicdhnjincflaaGreatDoorU0
import Derived.Test.YthicdhnjincflaaGreatDoorU2
import Derived.Lib.SlTrimSet
namespace Go.Proofs.YthicdhnjincflaaGreatDoor
open Go.RowKit
theorem bits_u8_and (a b : UInt8) : bits .and .u8 a.toNat b.toNat = ((a &&& b).toNat : Int) := by
  rw [(bits_nat .u8 8 (by decide) wraps_u8 a.toNat b.toNat a.toNat_lt b.toNat_lt).1]; simp
theorem bits_u8_or (a b : UInt8) : bits .or .u8 a.toNat b.toNat = ((a ||| b).toNat : Int) := by
  rw [(bits_nat .u8 8 (by decide) wraps_u8 a.toNat b.toNat a.toNat_lt b.toNat_lt).2]; simp
theorem byte_at (s : ByteArray) (k : Nat) (h : k < s.size) : s.data.toList[k]? = some s[k] := by
  simp [ByteArray.getElem_eq_getElem_data]
theorem len_data (s : ByteArray) : s.data.toList.length = s.size := rfl
theorem take_snoc (s : ByteArray) (k : Nat) (h : k < s.size) : s.data.toList.take (k + 1) = s.data.toList.take k ++ [s[k]] := by
  rw [List.take_add_one, byte_at s k h]; rfl
theorem take_all (s : ByteArray) (k : Nat) (h : s.size ≤ k) : s.data.toList.take k = s.data.toList := List.take_of_length_le (by rw [len_data]; exact h)
def hiN (b : UInt8) : UInt8 := b >>> (4 : UInt8)
def loN (b : UInt8) : UInt8 := b &&& (15 : UInt8)
def joinN (a b : UInt8) : UInt8 := a <<< (4 : UInt8) ||| b
def halves (l : List UInt8) : List UInt8 := l.flatMap fun (b : UInt8) => [hiN b, loN b]
theorem halves_append (l r : List UInt8) : halves (l ++ r) = halves l ++ halves r := by simp [halves]
theorem halves_one (b : UInt8) : halves [b] = [hiN b, loN b] := by simp [halves]
theorem halves_length (l : List UInt8) : (halves l).length = 2 * l.length := by
  induction l with
  | nil => rfl
  | cons a l ih =>
    show (halves ([a] ++ l)).length = _
    rw [halves_append, List.length_append, ih, halves_one]; simp; omega
theorem u8_hi (b : UInt8) : (b.toNat : Int) / 16 = ((hiN b).toNat : Int) := by
  unfold hiN
  rw [UInt8.toNat_shiftRight]
  have : (4 : UInt8).toNat % 8 = 4 := rfl
  rw [this, Nat.shiftRight_eq_div_pow]
  omega
theorem u8_lo (b : UInt8) : bits .and .u8 b.toNat 15 = ((loN b).toNat : Int) := bits_u8_and b 15
theorem u8_shl4 (a : UInt8) : IntKind.u8.wrap ((a.toNat : Int) * 16) = ((a <<< (4 : UInt8)).toNat : Int) := by
  rw [UInt8.toNat_shiftLeft, IntKind.wrap_u8]
  have : (4 : UInt8).toNat % 8 = 4 := rfl
  rw [this, Nat.shiftLeft_eq]
  omega
theorem u8_join (a b : UInt8) : bits .or .u8 (IntKind.u8.wrap ((a.toNat : Int) * 16)) b.toNat = ((joinN a b).toNat : Int) := by
  rw [u8_shl4, bits_u8_or]; rfl
def common : List UInt8 → List UInt8 → Nat
  | a :: l, b :: r => if a = b then common l r + 1 else 0
  | _, _ => 0
theorem common_full {l r : List UInt8} {k : Nat} (hk : k ≤ l.length) (hk' : k ≤ r.length) (h : ∀ i, i < k → l[i]? = r[i]?) (hend : k = l.length ∨ k = r.length ∨ l[k]? ≠ r[k]?) : common l r = k := by
  induction l generalizing r k with
  | nil => simp at hk; subst hk; simp [common]
  | cons a l ih =>
    cases r with
    | nil => simp at hk'; subst hk'; simp [common]
    | cons b r =>
      simp only [common]
      cases k with
      | zero =>
        have : a ≠ b := by simpa using hend
        simp [this]
      | succ k =>
        have h0 := h 0 (by omega)
        simp at h0; subst h0
        simp
        apply ih
        · simpa using hk
        · simpa using hk'
        · intro i hi; have := h (i+1) (by omega); simpa using this
        · simpa using hend
theorem u8_int_inj {a b : UInt8} (h : (a.toNat : Int) = b.toNat) : a = b := UInt8.toNat_inj.1 (by omega)
theorem alike_succ {l r : ByteArray} {k : Nat} (h : ∀ i, i < k → l.data.toList[i]? = r.data.toList[i]?) (h1 : k < l.size) (h2 : k < r.size) (e : ((l[k].toNat : Int) != r[k].toNat) = false) :
    ∀ i, i < k + 1 → l.data.toList[i]? = r.data.toList[i]? := by
  intro i hi
  by_cases hik : i = k
  · subst hik
    have e' : (l[i].toNat : Int) = r[i].toNat := by simpa using e
    rw [byte_at _ _ h1, byte_at _ _ h2, u8_int_inj e']
  · exact h i (by omega)
theorem common_ne {l r : ByteArray} {k : Nat} (h : ∀ i, i < k → l.data.toList[i]? = r.data.toList[i]?) (h1 : k < l.size) (h2 : k < r.size) (e : ((l[k].toNat : Int) != r[k].toNat) = true) :
    common l.data.toList r.data.toList = k := by
  refine common_full (by rw [len_data]; omega) (by rw [len_data]; omega) h (.inr (.inr ?_))
  have e' : ¬ (l[k].toNat : Int) = r[k].toNat := by simpa using e
  rw [byte_at _ _ h1, byte_at _ _ h2]
  intro he
  exact e' (by rw [Option.some.inj he])
theorem common_end {l r : ByteArray} {k : Nat} (h : ∀ i, i < k → l.data.toList[i]? = r.data.toList[i]?) (h1 : k ≤ l.size) (h2 : k ≤ r.size) (e : ¬ (k < l.size ∧ k < r.size)) :
    common l.data.toList r.data.toList = k :=
  common_full (by rw [len_data]; omega) (by rw [len_data]; omega) h (by rw [len_data, len_data]; omega)
theorem common_le (l r : List UInt8) : common l r ≤ l.length ∧ common l r ≤ r.length := by
  induction l generalizing r with
  | nil => simp [common]
  | cons a l ih =>
    cases r with
    | nil => simp [common]
    | cons b r =>
      simp only [common]
      split
      · have := ih r; simp; omega
      · simp
theorem common_take (l r : List UInt8) : l.take (common l r) = r.take (common l r) := by
  induction l generalizing r with
  | nil => simp [common]
  | cons a l ih =>
    cases r with
    | nil => simp [common]
    | cons b r =>
      simp only [common]
      split
      · rename_i h; subst h; simp [ih r]
      · simp
def isPath (l : List UInt8) : Bool := l.all fun (b : UInt8) => decide (b.toNat ≤ 15)
def pairUp : List UInt8 → List UInt8
  | a :: b :: r => joinN a b :: pairUp r
  | _ => []
def formHalves (path : List UInt8) (leaf : Bool) : List UInt8 :=
  if path.length % 2 = 1 then (if leaf then 3 else 1) :: path else (if leaf then 2 else 0) :: 0 :: path
def form (path : List UInt8) (leaf : Bool) : List UInt8 × Int := if isPath path then (pairUp (formHalves path leaf), 0) else ([], 2)
def read (s : List UInt8) : List UInt8 × Bool × Int :=
  match halves s with
  | m :: z :: r => if m.toNat > 3 ∨ (m.toNat % 2 = 0 ∧ z ≠ 0) then ([], false, 50) else if m.toNat % 2 = 0 then (r, decide (m.toNat = 2), 0) else (z :: r, decide (m.toNat = 3), 0)
  | _ => ([], false, 50)
theorem isPath_false (s : ByteArray) (k : Nat) (h : k < s.size) (e : 15 < (s[k].toNat : Int)) : isPath s.data.toList = false := by
  unfold isPath
  rw [List.all_eq_false]
  refine ⟨s[k], List.mem_of_getElem? (byte_at s k h), ?_⟩
  simp; omega
theorem isPath_true (s : ByteArray) (h : ∀ i (hi : i < s.size), (s[i].toNat : Int) ≤ 15) : isPath s.data.toList = true := by
  unfold isPath
  rw [List.all_eq_true]
  intro b hb
  obtain ⟨i, hi⟩ := List.mem_iff_getElem?.1 hb
  have hlt : i < s.size := by
    have := (List.getElem?_eq_some_iff.1 hi).1
    rwa [len_data] at this
  rw [byte_at s i hlt] at hi
  have := h i hlt
  rw [Option.some.inj hi] at this
  simp; omega
theorem isPath_step {s : ByteArray} {k : Nat} (h : ∀ i (hi : i < s.size), i < k → (s[i].toNat : Int) ≤ 15) (hk : k < s.size) (e : (s[k].toNat : Int) ≤ 15) :
    ∀ i (hi : i < s.size), i < k + 1 → (s[i].toNat : Int) ≤ 15 := by
  intro i hi hlt
  by_cases hik : i = k
  · subst hik; exact e
  · exact h i hi (by omega)
def readV (l : List UInt8) : Value := .tuple #[.string ⟨(read l).1.toArray⟩, .bool (read l).2.1, .int .i64 (read l).2.2]
def formV (l : List UInt8) (leaf : Bool) : Value := .tuple #[.string ⟨(form l leaf).1.toArray⟩, .int .i64 (form l leaf).2]
theorem readV_of {l : List UInt8} {p : List UInt8} {q : Bool} {e : Int} (h : read l = (p, q, e)) : readV l = .tuple #[.string ⟨p.toArray⟩, .bool q, .int .i64 e] := by unfold readV; rw [h]
theorem formV_of {l : List UInt8} {leaf : Bool} {p : List UInt8} {e : Int} (h : form l leaf = (p, e)) : formV l leaf = .tuple #[.string ⟨p.toArray⟩, .int .i64 e] := by unfold formV; rw [h]
theorem read_nil {l : List UInt8} (h : halves l = []) : read l = ([], false, 50) := by unfold read; rw [h]
theorem ext_drop (L : ByteArray) (k : Nat) : L.extract k L.size = ⟨(L.data.toList.drop k).toArray⟩ := by
  apply ByteArray.ext
  apply Array.toList_inj.1
  simp [Array.toList_extract, List.extract_eq_take_drop]
  rw [List.take_of_length_le (by simp)]
theorem pairUp_step {L : List UInt8} {m : Nat} (hm : m % 2 = 0) (h : m + 1 < L.length) : pairUp (L.take (m + 2)) = pairUp (L.take m) ++ [joinN L[m] L[m + 1]] := by
  induction L using pairUp.induct generalizing m with
  | case1 a b r ih =>
    cases m with
    | zero => simp [pairUp]
    | succ m =>
      cases m with
      | zero => omega
      | succ m =>
        have := @ih m (by omega) (by simpa using h)
        simpa [pairUp] using this
  | case2 L hL =>
    match L, hL with
    | [], _ => simp at h
    | [a], _ => simp at h
    | a :: b :: r, hL => exact (hL a b r rfl).elim
def nibSet : List UInt8 := [0, 1, 2, 3, 4, 5, 6, 7, 8, 9, 10, 11, 12, 13, 14, 15]
theorem nibSet_mem (b : UInt8) : nibSet.contains b = decide (b.toNat ≤ 15) := by
  rw [Bool.eq_iff_iff]
  simp only [nibSet, List.contains_cons, List.contains_nil, Bool.or_false, Bool.or_eq_true, beq_iff_eq, decide_eq_true_eq, ← UInt8.toNat_inj]
  have h : ∀ n : Nat, n < 16 → (UInt8.ofNat n).toNat = n := fun n hn => by simp; omega
  constructor
  · rintro (e | e | e | e | e | e | e | e | e | e | e | e | e | e | e | e) <;> rw [e] <;> decide
  · intro hb
    simp
    omega
theorem dropWhile_nil {l : List UInt8} {p : UInt8 → Bool} : l.dropWhile p = [] ↔ l.all p = true := by
  induction l with
  | nil => simp
  | cons a l ih =>
    simp only [List.dropWhile_cons, List.all_cons]
    cases p a <;> simp [ih]
theorem dropWhile_sub {l : List UInt8} {p : UInt8 → Bool} {b : UInt8} (h : b ∈ l) (hb : p b = false) : b ∈ l.dropWhile p := by
  induction l with
  | nil => cases h
  | cons a l ih =>
    simp only [List.dropWhile_cons]
    cases hp : p a with
    | false => exact h
    | true =>
      simp only [if_true]
      rcases List.mem_cons.1 h with rfl | h
      · rw [hp] at hb; cases hb
      · exact ih h
theorem trim_path {l : List UInt8} : (Lib.trimS l nibSet = []) ↔ isPath l = true := by
  have e : (fun b => nibSet.contains b) = fun b : UInt8 => decide (b.toNat ≤ 15) := funext nibSet_mem
  unfold Lib.trimS Lib.trimLeftS Lib.trimRightS isPath
  rw [e, dropWhile_nil]
  constructor
  · intro h
    rw [List.all_eq_true] at h ⊢
    intro b hb
    cases hp : decide (b.toNat ≤ 15) with
    | true => rfl
    | false =>
      exact absurd (h b (List.mem_reverse.2 (dropWhile_sub (p := fun b : UInt8 => decide (b.toNat ≤ 15)) (List.mem_reverse.2 hb) hp))) (by simp [hp])
  · intro h
    have : l.reverse.dropWhile (fun b : UInt8 => decide (b.toNat ≤ 15)) = [] := dropWhile_nil.2 (by rw [List.all_reverse]; exact h)
    rw [this]; rfl
theorem set_zeros (l : List UInt8) (k n : Nat) (hk : l.length = k) (x : UInt8) : (l ++ List.replicate (n + 1) 0).set k x = (l ++ [x]) ++ List.replicate n 0 := by
  subst hk
  simp [List.replicate_succ]
theorem pairUp_length (L : List UInt8) : (pairUp L).length = L.length / 2 := by
  induction L using pairUp.induct with
  | case1 a b r ih => simp [pairUp, ih]; omega
  | case2 l hl =>
    match l, hl with
    | [], _ => simp [pairUp]
    | [a], _ => simp [pairUp]
    | a :: b :: r, hl => exact (hl a b r rfl).elim
end Go.Proofs.YthicdhnjincflaaGreatDoor
/- Plain numbers as bytes, the highest byte first: no program is named. -/
namespace Go.Proofs.YthicdhnjincflaaGreatDoor
open Go.RowKit
def val (l : List UInt8) : Nat := l.foldl (fun n b => n * 256 + b.toNat) 0
theorem val_snoc (l : List UInt8) (b : UInt8) : val (l ++ [b]) = val l * 256 + b.toNat := by simp [val]
theorem val_nil : val [] = 0 := rfl
theorem foldl_val (l : List UInt8) (a : Nat) : l.foldl (fun n b => n * 256 + b.toNat) a = a * 256 ^ l.length + val l := by
  induction l generalizing a with
  | nil => simp [val]
  | cons b l ih =>
    simp only [List.foldl_cons, val]
    rw [ih, ih, List.length_cons, Nat.pow_succ, Nat.add_mul, Nat.zero_mul, Nat.zero_add]
    rw [Nat.mul_assoc, Nat.mul_comm 256, Nat.add_assoc]
theorem val_cons (b : UInt8) (l : List UInt8) : val (b :: l) = b.toNat * 256 ^ l.length + val l := by
  show l.foldl _ (0 * 256 + b.toNat) = _
  rw [foldl_val]; simp
theorem val_lt (l : List UInt8) : val l < 256 ^ l.length := by
  induction l with
  | nil => simp [val]
  | cons b l ih =>
    rw [val_cons, List.length_cons, Nat.pow_succ]
    have := b.toNat_lt
    calc b.toNat * 256 ^ l.length + val l < b.toNat * 256 ^ l.length + 256 ^ l.length := by omega
      _ = (b.toNat + 1) * 256 ^ l.length := by rw [Nat.add_mul, Nat.one_mul]
      _ ≤ 256 * 256 ^ l.length := Nat.mul_le_mul_right _ (by omega)
      _ = 256 ^ l.length * 256 := Nat.mul_comm _ _
def be : Nat → Nat → List UInt8
  | 0, _ => []
  | k + 1, n => be k (n / 256) ++ [UInt8.ofNat n]
theorem be_length (k n : Nat) : (be k n).length = k := by
  induction k generalizing n with
  | zero => rfl
  | succ k ih => simp [be, ih]
theorem val_be (k n : Nat) : val (be k n) = n % 256 ^ k := by
  induction k generalizing n with
  | zero => simp [be, val, Nat.mod_one]
  | succ k ih =>
    rw [be, val_snoc, ih, Nat.pow_succ, Nat.mul_comm (256 ^ k), Nat.mod_mul]
    simp
    omega
theorem val_be8 {n : Nat} (h : n < 18446744073709551616) : val (be 8 n) = n := by
  rw [val_be]; exact Nat.mod_eq_of_lt h
theorem be_cons (k n : Nat) : be (k + 1) n = UInt8.ofNat (n / 256 ^ k) :: be k n := by
  induction k generalizing n with
  | zero => simp [be]
  | succ k ih =>
    rw [be, ih (n / 256), be, List.cons_append, Nat.div_div_eq_div_mul, Nat.pow_succ, Nat.mul_comm 256]
def strip (l : List UInt8) : List UInt8 := l.dropWhile (· == 0)
theorem val_strip (l : List UInt8) : val (strip l) = val l := by
  induction l with
  | nil => rfl
  | cons b l ih =>
    unfold strip
    rw [List.dropWhile_cons]
    split
    · rename_i h
      have : b = 0 := by simpa using h
      subst this
      rw [val_cons]
      show val (strip l) = _
      rw [ih]; simp
    · rfl
def num (n : Nat) : List UInt8 := strip (be 8 n)
theorem val_num {n : Nat} (h : n < 18446744073709551616) : val (num n) = n := by rw [num, val_strip, val_be8 h]
theorem strip_length (l : List UInt8) : (strip l).length ≤ l.length := by
  unfold strip
  exact (List.dropWhile_suffix _).length_le
theorem num_length (n : Nat) : (num n).length ≤ 8 := by
  have := strip_length (be 8 n)
  rw [be_length] at this
  exact this
theorem strip_head (l : List UInt8) : (strip l).head? ≠ some 0 := by
  induction l with
  | nil => simp [strip]
  | cons b l ih =>
    unfold strip
    rw [List.dropWhile_cons]
    split
    · exact ih
    · rename_i h
      intro e
      simp at e
      subst e
      simp at h
theorem val_inj {l r : List UInt8} (hl : l.head? ≠ some 0) (hr : r.head? ≠ some 0) (h : val l = val r) : l = r := by
  have len : ∀ {x : List UInt8}, x.head? ≠ some 0 → x ≠ [] → 256 ^ (x.length - 1) ≤ val x := by
    intro x hx hne
    cases x with
    | nil => exact absurd rfl hne
    | cons b x =>
      have hb : b.toNat ≠ 0 := fun e => hx (by simp; exact UInt8.toNat_inj.1 e)
      rw [val_cons, List.length_cons, Nat.add_sub_cancel]
      calc 256 ^ x.length = 1 * 256 ^ x.length := by omega
        _ ≤ b.toNat * 256 ^ x.length := Nat.mul_le_mul_right _ (by omega)
        _ ≤ _ := by omega
  have hlen : l.length = r.length := by
    have key : ∀ {x y : List UInt8}, x.head? ≠ some 0 → y.head? ≠ some 0 → val x = val y → x.length ≤ y.length := by
      intro x y hx _ e
      rcases Nat.lt_or_ge y.length x.length with hlt | hge
      · exfalso
        have h1 := len hx (by intro e0; rw [e0] at hlt; simp at hlt)
        have h2 := val_lt y
        have h3 : 256 ^ y.length ≤ 256 ^ (x.length - 1) := Nat.pow_le_pow_right (by omega) (by omega)
        omega
      · exact hge
    exact Nat.le_antisymm (key hl hr h) (key hr hl h.symm)
  have inj : ∀ {x y : List UInt8}, x.length = y.length → val x = val y → x = y := by
    intro x
    induction x with
    | nil => intro y hy _; cases y with
      | nil => rfl
      | cons b y => simp at hy
    | cons a x ih =>
      intro y hy e
      cases y with
      | nil => simp at hy
      | cons b y =>
        simp only [List.length_cons, Nat.add_right_cancel_iff] at hy
        rw [val_cons, val_cons, hy] at e
        have h1 := val_lt x
        have h2 := val_lt y
        rw [hy] at h1
        have hp : 0 < 256 ^ y.length := Nat.pow_pos (by omega)
        have e1 : a.toNat = b.toNat := by
          have d1 : (a.toNat * 256 ^ y.length + val x) / 256 ^ y.length = a.toNat := by
            rw [Nat.mul_comm, Nat.mul_add_div hp, Nat.div_eq_of_lt h1, Nat.add_zero]
          have d2 : (b.toNat * 256 ^ y.length + val y) / 256 ^ y.length = b.toNat := by
            rw [Nat.mul_comm, Nat.mul_add_div hp, Nat.div_eq_of_lt h2, Nat.add_zero]
          rw [← d1, ← d2, e]
        rw [e1] at e
        rw [UInt8.toNat_inj.1 e1, ih hy (by omega)]
  exact inj hlen h
theorem num_val {l : List UInt8} (hl : l.head? ≠ some 0) (hlen : l.length ≤ 8) : num (val l) = l := by
  have hlt : val l < 18446744073709551616 := Nat.lt_of_lt_of_le (val_lt l) (Nat.pow_le_pow_right (by omega) hlen)
  exact val_inj (strip_head _) hl (val_num hlt)
def value (l : List UInt8) : Nat × Int := if l.length > 8 ∨ l.head? = some 0 then (0, 40) else (val l, 0)
theorem val_lt64 {l : List UInt8} (h : l.length ≤ 8) : val l < 18446744073709551616 := Nat.lt_of_lt_of_le (val_lt l) (Nat.pow_le_pow_right (by omega) h)
theorem be_num {n k : Nat} (hn : n < 18446744073709551616) (h0 : n / 256 ^ k = 0) (h1 : k = 0 ∨ n / 256 ^ (k - 1) ≠ 0) : be k n = num n := by
  have hlt : n < 256 ^ k := by
    rcases Nat.lt_or_ge n (256 ^ k) with h | h
    · exact h
    · have := Nat.div_pos h (Nat.pow_pos (by omega)); omega
  refine val_inj ?_ (strip_head _) ?_
  · rcases h1 with rfl | h1
    · simp [be]
    · cases k with
      | zero => simp [be]
      | succ k =>
        rw [be_cons]
        simp only [List.head?_cons, ne_eq, Option.some.injEq]
        intro e
        have e' : (n / 256 ^ k) % 256 = 0 := by
          have := congrArg UInt8.toNat e
          simpa using this
        have h2 : n / 256 ^ k < 256 := by
          rw [Nat.div_lt_iff_lt_mul (Nat.pow_pos (by omega)), Nat.mul_comm, ← Nat.pow_succ]
          exact hlt
        rw [Nat.mod_eq_of_lt h2] at e'
        exact h1 (by simpa using e')
  · rw [val_be, val_num hn, Nat.mod_eq_of_lt hlt]
end Go.Proofs.YthicdhnjincflaaGreatDoor
/- Plain items, their bytes, and the items of bytes: no program is named. -/
namespace Go.Proofs.YthicdhnjincflaaGreatDoor
open Go.RowKit
inductive Item where
  | mk (isList : Bool) (text : List UInt8) (list : List Item)
def Item.isList : Item → Bool | .mk b _ _ => b
def Item.text : Item → List UInt8 | .mk _ t _ => t
def Item.list : Item → List Item | .mk _ _ l => l
def Item.none : Item := .mk false [] []
def framed (s : List UInt8) (base : Nat) : List UInt8 :=
  if s.length < 56 then UInt8.ofNat (base + s.length) :: s else UInt8.ofNat (base + 55 + (num s.length).length) :: (num s.length ++ s)
def putText (t : List UInt8) : List UInt8 := if t.length = 1 ∧ (t.headD 0).toNat < 128 then t else framed t 128
mutual
def put : Item → List UInt8
  | .mk b t l => if b then framed (putAll l) 192 else putText t
def putAll : List Item → List UInt8
  | [] => []
  | x :: r => put x ++ putAll r
end
mutual
def deep : Item → Nat → Bool
  | .mk _ _ l, m => if m = 0 then true else deepAny l (m - 1)
def deepAny : List Item → Nat → Bool
  | [], _ => false
  | x :: r, m => deep x m || deepAny r m
end
mutual
def wrong : Item → Bool
  | .mk b t l => if b then (!t.isEmpty || wrongAny l) else !l.isEmpty
def wrongAny : List Item → Bool
  | [] => false
  | x :: r => wrong x || wrongAny r
end
def encode (x : Item) : List UInt8 × Int :=
  if deep x 12 then ([], 41) else if wrong x then ([], 2) else if (put x).length > 65536 then ([], 42) else (put x, 0)
def cut : List UInt8 → Option (List UInt8 × Bool × List UInt8)
  | [] => Option.none
  | c :: rest =>
    if c.toNat < 128 then some ([c], false, rest)
    else if (c.toNat - 128) % 64 > 55 then
      if (c.toNat - 128) % 64 - 55 > rest.length then Option.none
      else if (value (rest.take ((c.toNat - 128) % 64 - 55))).2 ≠ 0 ∨ (value (rest.take ((c.toNat - 128) % 64 - 55))).1 < 56 then Option.none
      else if (value (rest.take ((c.toNat - 128) % 64 - 55))).1 > (rest.drop ((c.toNat - 128) % 64 - 55)).length then Option.none
      else some ((rest.drop ((c.toNat - 128) % 64 - 55)).take (value (rest.take ((c.toNat - 128) % 64 - 55))).1, decide (192 ≤ c.toNat), (rest.drop ((c.toNat - 128) % 64 - 55)).drop (value (rest.take ((c.toNat - 128) % 64 - 55))).1)
    else if (c.toNat - 128) % 64 > rest.length then Option.none
    else if c.toNat < 192 ∧ (c.toNat - 128) % 64 = 1 ∧ (rest.headD 0).toNat < 128 then Option.none
    else some (rest.take ((c.toNat - 128) % 64), decide (192 ≤ c.toNat), rest.drop ((c.toNat - 128) % 64))
theorem cut_short {s inn rest : List UInt8} {b : Bool} (h : cut s = some (inn, b, rest)) : rest.length < s.length ∧ inn.length ≤ s.length ∧ (b = true → inn.length < s.length) := by
  cases s with
  | nil => simp [cut] at h
  | cons c r =>
    rw [cut] at h
    split at h
    · simp only [Option.some.injEq, Prod.mk.injEq] at h
      obtain ⟨rfl, rfl, rfl⟩ := h
      simp
    · split at h
      · split at h
        · simp at h
        · split at h
          · simp at h
          · split at h
            · simp at h
            · simp only [Option.some.injEq, Prod.mk.injEq] at h
              obtain ⟨rfl, _, rfl⟩ := h
              simp only [List.length_take, List.length_drop, List.length_cons]
              omega
      · split at h
        · simp at h
        · split at h
          · simp at h
          · simp only [Option.some.injEq, Prod.mk.injEq] at h
            obtain ⟨rfl, _, rfl⟩ := h
            simp only [List.length_take, List.length_drop, List.length_cons]
            omega
def parse : Nat → List UInt8 → Option (List Item)
  | 0, _ => Option.none
  | f + 1, s =>
    if s = [] then some []
    else match cut s with
      | Option.none => Option.none
      | some (inn, b, rest) =>
        match (if b then (parse f inn).map (Item.mk true []) else some (Item.mk false inn [])) with
        | Option.none => Option.none
        | some x => (parse f rest).map (x :: ·)
theorem parse_fuel (f g : Nat) (s : List UInt8) (hf : s.length < f) (hg : s.length < g) : parse f s = parse g s := by
  induction f generalizing g s with
  | zero => omega
  | succ f ih =>
    cases g with
    | zero => omega
    | succ g =>
      unfold parse
      split
      · rfl
      · rename_i hne
        cases hc : cut s with
        | none => rfl
        | some q =>
          obtain ⟨inn, b, rest⟩ := q
          have hs := cut_short hc
          dsimp only
          cases b with
          | false =>
            rw [ih g rest (by omega) (by omega)]
            rfl
          | true =>
            have := hs.2.2 rfl
            rw [ih g inn (by omega) (by omega), ih g rest (by omega) (by omega)]
def all (s : List UInt8) : Option (List Item) := parse (s.length + 1) s
def first (s : List UInt8) : Option (Item × List UInt8) :=
  match cut s with
  | Option.none => Option.none
  | some (inn, b, rest) => if b then (all inn).map fun l => (Item.mk true [] l, rest) else some (Item.mk false inn [], rest)
theorem all_nil : all [] = some [] := rfl
theorem all_step {s : List UInt8} (h : s ≠ []) : all s = match first s with
    | Option.none => Option.none
    | some (x, rest) => (all rest).map (x :: ·) := by
  unfold all first
  conv => lhs; unfold parse
  rw [if_neg h]
  cases hc : cut s with
  | none => rfl
  | some q =>
    obtain ⟨inn, b, rest⟩ := q
    have hs := cut_short hc
    dsimp only
    cases b with
    | false =>
      simp only [Bool.false_eq_true, if_false]
      rw [parse_fuel s.length (rest.length + 1) rest (by omega) (by omega)]
    | true =>
      have := hs.2.2 rfl
      simp only [if_true]
      rw [parse_fuel s.length (inn.length + 1) inn (by omega) (by omega)]
      cases hi : parse (inn.length + 1) inn with
      | none =>
        have : all inn = Option.none := hi
        rw [this]; rfl
      | some l =>
        have : all inn = some l := hi
        rw [this]
        simp only [Option.map_some]
        rw [parse_fuel s.length (rest.length + 1) rest (by omega) (by omega)]
def decode (s : List UInt8) : Item × Int :=
  if s.length > 65536 then (.none, 42)
  else match all s with
    | some [x] => if deep x 12 then (.none, 41) else (x, 0)
    | _ => (.none, 40)
end Go.Proofs.YthicdhnjincflaaGreatDoor
/- Plain items: how many there are in one, and what the recursive functions give of a list. -/
namespace Go.Proofs.YthicdhnjincflaaGreatDoor
open Go.RowKit
mutual
def Item.size : Item → Nat
  | .mk _ _ l => sizeAll l + 1
def sizeAll : List Item → Nat
  | [] => 0
  | x :: r => x.size + sizeAll r
end
theorem Item.size_eq (x : Item) : x.size = sizeAll x.list + 1 := by cases x; rfl
theorem Item.size_pos (x : Item) : 0 < x.size := by rw [Item.size_eq]; omega
theorem sizeAll_length (l : List Item) : l.length ≤ sizeAll l := by
  induction l with
  | nil => simp [sizeAll]
  | cons x r ih => have := x.size_pos; simp [sizeAll]; omega
theorem size_mem {l : List Item} {i : Nat} {x : Item} (h : l[i]? = some x) : x.size ≤ sizeAll l := by
  induction l generalizing i with
  | nil => simp at h
  | cons y r ih =>
    cases i with
    | zero => simp at h; subst h; simp [sizeAll]
    | succ i => have := ih (i := i) (by simpa using h); simp [sizeAll]; omega
theorem size_child {x y : Item} {i : Nat} (h : x.list[i]? = some y) : y.size < x.size := by
  have := size_mem h
  rw [Item.size_eq x]; omega
theorem length_lt_size (x : Item) : x.list.length < x.size := by
  have := sizeAll_length x.list
  rw [Item.size_eq]; omega
theorem deepAny_any (l : List Item) (m : Nat) : deepAny l m = l.any fun x => deep x m := by
  induction l with
  | nil => rfl
  | cons x r ih => rw [deepAny, ih]; rfl
theorem wrongAny_any (l : List Item) : wrongAny l = l.any wrong := by
  induction l with
  | nil => rfl
  | cons x r ih => rw [wrongAny, ih]; rfl
theorem deep_eq (x : Item) (m : Nat) : deep x m = if m = 0 then true else x.list.any fun y => deep y (m - 1) := by
  cases x with
  | mk b t l =>
    rw [deep, deepAny_any]; rfl
theorem wrong_eq (x : Item) : wrong x = if x.isList then (!x.text.isEmpty || x.list.any wrong) else !x.list.isEmpty := by
  cases x with
  | mk b t l => rw [wrong, wrongAny_any]; rfl
end Go.Proofs.YthicdhnjincflaaGreatDoor
/- Plain items: what is written is read as it was, and what is read is written so again. No program is named. -/
namespace Go.Proofs.YthicdhnjincflaaGreatDoor
open Go.RowKit
theorem headByte {n : Nat} (h : n < 256) : (UInt8.ofNat n).toNat = n := by
  rw [UInt8.toNat_ofNat']; exact Nat.mod_eq_of_lt h
theorem value_num {n : Nat} (h : n < 18446744073709551616) : value (num n) = (n, 0) := by
  unfold value
  have h1 := num_length n
  have h2 : ¬ ((num n).length > 8 ∨ (num n).head? = some 0) := by
    rintro (e | e)
    · omega
    · exact strip_head (be 8 n) e
  rw [if_neg h2, val_num h]
theorem num_pos {n : Nat} (h : n < 18446744073709551616) (h0 : 0 < n) : 0 < (num n).length := by
  cases hx : num n with
  | nil =>
    have := val_num h
    rw [hx] at this
    simp [val_nil] at this
    omega
  | cons c r => simp
theorem take_app (a b : List UInt8) : (a ++ b).take a.length = a := by simp
theorem drop_app (a b : List UInt8) : (a ++ b).drop a.length = b := by simp
theorem cut_framed (s rest : List UInt8) (base : Nat) (hb : base = 128 ∨ base = 192) (hs : s.length < 9223372036854775808) (h1 : base = 128 → ¬ (s.length = 1 ∧ (s.headD 0).toNat < 128)) :
    cut (framed s base ++ rest) = some (s, decide (base = 192), rest) := by
  unfold framed
  by_cases hl : s.length < 56
  · rw [if_pos hl, List.cons_append, cut, headByte (by omega)]
    have e : (base + s.length - 128) % 64 = s.length := by omega
    rw [if_neg (by omega), e, if_neg (by omega), if_neg (by simp), if_neg ?_, take_app, drop_app]
    · rcases hb with rfl | rfl <;> simp <;> omega
    · rintro ⟨c1, c2, c3⟩
      refine h1 (by omega) ⟨c2, ?_⟩
      obtain ⟨c, rfl⟩ := List.length_eq_one_iff.1 c2
      exact c3
  · have h8 := num_length s.length
    have h0 := num_pos (n := s.length) (by omega) (by omega)
    rw [if_neg hl, List.cons_append, cut, headByte (by omega)]
    have e : (base + 55 + (num s.length).length - 128) % 64 = 55 + (num s.length).length := by omega
    rw [if_neg (by omega), e, if_pos (by omega), Nat.add_sub_cancel_left, List.append_assoc, if_neg (by simp), take_app, drop_app, value_num (by omega), if_neg (by simp; omega), if_neg (by simp), take_app, drop_app]
    rcases hb with rfl | rfl <;> simp <;> omega
theorem cut_put_text (t rest : List UInt8) (hs : t.length < 9223372036854775808) : cut (putText t ++ rest) = some (t, false, rest) := by
  unfold putText
  split
  · rename_i h
    match t, h with
    | [c], h =>
      have : c.toNat < 128 := h.2
      rw [List.cons_append, List.nil_append, cut, if_pos this]
  · rename_i h
    rw [cut_framed t rest 128 (.inl rfl) hs (fun _ => h)]
    rfl
theorem framed_ne (s : List UInt8) (b : Nat) : framed s b ≠ [] := by
  unfold framed
  split <;> simp
theorem put_ne (x : Item) : put x ≠ [] := by
  cases x with
  | mk b t l =>
    simp only [put]
    split
    · exact framed_ne _ _
    · unfold putText
      split
      · rename_i h
        intro e
        rw [e] at h
        simp at h
      · exact framed_ne _ _
theorem framed_ge (s : List UInt8) (b : Nat) : s.length ≤ (framed s b).length := by
  unfold framed
  split <;> simp
  omega
theorem putText_ge (t : List UInt8) : t.length ≤ (putText t).length := by
  unfold putText
  split
  · omega
  · exact framed_ge _ _
theorem putAll_append (l r : List Item) : putAll (l ++ r) = putAll l ++ putAll r := by
  induction l with
  | nil => rfl
  | cons x l ih => simp only [List.cons_append, putAll, ih, List.append_assoc]
theorem all_put (n : Nat) : (∀ (x : Item) (rest : List UInt8), x.size ≤ n → wrong x = false → (put x).length < 9223372036854775808 → first (put x ++ rest) = some (x, rest)) ∧
    (∀ (l : List Item), sizeAll l ≤ n → wrongAny l = false → (putAll l).length < 9223372036854775808 → all (putAll l) = some l) := by
  induction n with
  | zero =>
    refine ⟨fun x _ h => by have := x.size_pos; omega, fun l h _ _ => ?_⟩
    cases l with
    | nil => rfl
    | cons x r => have := x.size_pos; simp [sizeAll] at h; omega
  | succ n ih =>
    have hfirst : ∀ (x : Item) (rest : List UInt8), x.size ≤ n + 1 → wrong x = false → (put x).length < 9223372036854775808 → first (put x ++ rest) = some (x, rest) := by
      intro x rest hx hw hp
      cases x with
      | mk b t l =>
        simp only [Item.size] at hx
        cases b with
        | true =>
          simp only [wrong, if_true, Bool.or_eq_false_iff, Bool.not_eq_false'] at hw
          have ht : t = [] := by simpa using hw.1
          subst ht
          simp only [put, if_true] at hp ⊢
          have hg := framed_ge (putAll l) 192
          unfold first
          rw [cut_framed _ _ 192 (.inr rfl) (by omega) (fun h => by omega)]
          simp only [decide_true, if_true]
          rw [ih.2 l (by omega) hw.2 (by omega)]
          rfl
        | false =>
          simp only [wrong, Bool.false_eq_true, if_false, Bool.not_eq_false'] at hw
          have hl : l = [] := by simpa using hw
          subst hl
          simp only [put, Bool.false_eq_true, if_false] at hp ⊢
          have hg := putText_ge t
          unfold first
          rw [cut_put_text _ _ (by omega)]
          rfl
    refine ⟨hfirst, ?_⟩
    intro l
    induction l with
    | nil => exact fun _ _ _ => rfl
    | cons x r ihr =>
      intro hs hw hp
      simp only [sizeAll] at hs
      simp only [wrongAny, Bool.or_eq_false_iff] at hw
      simp only [putAll, List.length_append] at hp
      have hx := x.size_pos
      have hne : putAll (x :: r) ≠ [] := by
        simp only [putAll]
        intro e
        exact put_ne x (List.append_eq_nil_iff.1 e).1
      rw [all_step hne]
      simp only [putAll]
      rw [hfirst x _ (by omega) hw.1 (by omega)]
      dsimp only
      rw [ih.2 r (by omega) hw.2 (by omega)]
      rfl
theorem first_put (x : Item) (rest : List UInt8) (hw : wrong x = false) (hp : (put x).length < 9223372036854775808) : first (put x ++ rest) = some (x, rest) := (all_put x.size).1 x rest (Nat.le_refl _) hw hp
theorem cut_back {s inn rest : List UInt8} {b : Bool} (h : cut s = some (inn, b, rest)) (hs : s.length < 9223372036854775808) : s = (if b then framed inn 192 else putText inn) ++ rest := by
  cases s with
  | nil => simp [cut] at h
  | cons c r =>
    have hc := c.toNat_lt
    have ec : UInt8.ofNat c.toNat = c := by simp
    rw [cut] at h
    split at h
    · rename_i h1
      simp only [Option.some.injEq, Prod.mk.injEq] at h
      obtain ⟨rfl, rfl, rfl⟩ := h
      simp [putText, h1]
    · rename_i h1
      obtain ⟨n, hn⟩ : ∃ n, (c.toNat - 128) % 64 = n := ⟨_, rfl⟩
      rw [hn] at h
      have hb : c.toNat = (if 192 ≤ c.toNat then 192 else 128) + n := by split <;> omega
      split at h
      · rename_i h2
        split at h
        · simp at h
        · rename_i h3
          split at h
          · simp at h
          · rename_i h4
            split at h
            · simp at h
            · rename_i h5
              simp only [Option.some.injEq, Prod.mk.injEq] at h
              obtain ⟨rfl, rfl, rfl⟩ := h
              obtain ⟨k, hk⟩ : ∃ k, n - 55 = k := ⟨_, rfl⟩
              rw [hk] at h3 h4 h5 ⊢
              have hv : (value (r.take k)).2 = 0 ∧ 56 ≤ (value (r.take k)).1 := by
                refine ⟨?_, ?_⟩
                · rcases Classical.em ((value (r.take k)).2 = 0) with h | h
                  · exact h
                  · exact absurd (.inl h) h4
                · rcases Nat.lt_or_ge (value (r.take k)).1 56 with h | h
                  · exact absurd (.inr h) h4
                  · exact h
              obtain ⟨hv1, hv2⟩ := hv
              have hgood : ¬ ((r.take k).length > 8 ∨ (r.take k).head? = some 0) := by
                intro e
                unfold value at hv1
                rw [if_pos e] at hv1
                simp at hv1
              have hval : (value (r.take k)).1 = val (r.take k) := by unfold value; rw [if_neg hgood]
              rw [hval] at h5 hv2 ⊢
              have hnum : num (val (r.take k)) = r.take k := num_val (fun e => hgood (.inr e)) (by
                rcases Nat.lt_or_ge 8 (r.take k).length with h | h
                · exact absurd (.inl h) hgood
                · exact h)
              have hlen : (r.take k).length = k := by rw [List.length_take]; omega
              have hil : ((r.drop k).take (val (r.take k))).length = val (r.take k) := by rw [List.length_take]; omega
              have hfr : ∀ base, base + 55 + k = c.toNat → framed ((r.drop k).take (val (r.take k))) base ++ (r.drop k).drop (val (r.take k)) = c :: r := by
                intro base hbase
                unfold framed
                rw [hil, if_neg (by omega), hnum, hlen, hbase, ec]
                simp only [List.cons_append, List.append_assoc, List.take_append_drop]
              by_cases h6 : 192 ≤ c.toNat
              · rw [if_pos h6] at hb
                rw [if_pos (by simpa using h6)]
                exact (hfr 192 (by omega)).symm
              · rw [if_neg h6] at hb
                rw [if_neg (by simpa using h6)]
                have hpt : putText ((r.drop k).take (val (r.take k))) = framed ((r.drop k).take (val (r.take k))) 128 := by
                  unfold putText
                  rw [if_neg (by omega)]
                rw [hpt]
                exact (hfr 128 (by omega)).symm
      · rename_i h2
        split at h
        · simp at h
        · rename_i h3
          split at h
          · simp at h
          · rename_i h4
            simp only [Option.some.injEq, Prod.mk.injEq] at h
            obtain ⟨rfl, rfl, rfl⟩ := h
            have hil : (r.take n).length = n := by rw [List.length_take]; omega
            have hfr : ∀ base, base + n = c.toNat → framed (r.take n) base ++ r.drop n = c :: r := by
              intro base hbase
              unfold framed
              rw [hil, if_pos (by omega), hbase, ec]
              simp only [List.cons_append, List.take_append_drop]
            by_cases h6 : 192 ≤ c.toNat
            · rw [if_pos h6] at hb
              rw [if_pos (by simpa using h6)]
              exact (hfr 192 (by omega)).symm
            · rw [if_neg h6] at hb
              rw [if_neg (by simpa using h6)]
              have hpt : putText (r.take n) = framed (r.take n) 128 := by
                unfold putText
                rw [if_neg]
                rintro ⟨e1, e2⟩
                refine h4 ⟨by omega, by omega, ?_⟩
                match r, n, hil, e1, e2 with
                | c' :: r', n + 1, _, _, e2 => simpa using e2
                | [], n, hil, e1, _ => simp at e1
                | _ :: _, 0, _, e1, _ => simp at e1
              rw [hpt]
              exact (hfr 128 (by omega)).symm
theorem all_back (n : Nat) : (∀ (s : List UInt8) (x : Item) (rest : List UInt8), s.length ≤ n → s.length < 9223372036854775808 → first s = some (x, rest) → s = put x ++ rest ∧ wrong x = false) ∧
    (∀ (s : List UInt8) (l : List Item), s.length ≤ n → s.length < 9223372036854775808 → all s = some l → s = putAll l ∧ wrongAny l = false) := by
  induction n with
  | zero =>
    refine ⟨fun s x rest h _ hf => ?_, fun s l h _ ha => ?_⟩
    · obtain rfl : s = [] := List.length_eq_zero_iff.1 (by omega)
      cases hf
    · obtain rfl : s = [] := List.length_eq_zero_iff.1 (by omega)
      cases ha
      exact ⟨rfl, rfl⟩
  | succ n ih =>
    have hfirst : ∀ (s : List UInt8) (x : Item) (rest : List UInt8), s.length ≤ n + 1 → s.length < 9223372036854775808 → first s = some (x, rest) → s = put x ++ rest ∧ wrong x = false := by
      intro s x rest hs hs2 hf
      unfold first at hf
      cases hc : cut s with
      | none => rw [hc] at hf; cases hf
      | some q =>
        obtain ⟨inn, b, r⟩ := q
        have h1 := cut_back hc hs2
        have h2 := cut_short hc
        rw [hc] at hf
        dsimp only at hf
        cases b with
        | false =>
          simp only [Bool.false_eq_true, if_false, Option.some.injEq, Prod.mk.injEq] at hf h1
          obtain ⟨rfl, rfl⟩ := hf
          refine ⟨?_, rfl⟩
          simp only [put, Bool.false_eq_true, if_false]
          exact h1
        | true =>
          simp only [if_true] at hf h1
          cases ha : all inn with
          | none => rw [ha] at hf; cases hf
          | some l =>
            rw [ha] at hf
            simp only [Option.map_some, Option.some.injEq, Prod.mk.injEq] at hf
            obtain ⟨rfl, rfl⟩ := hf
            have h3 := h2.2.2 rfl
            obtain ⟨h4, h5⟩ := ih.2 inn l (by omega) (by omega) ha
            refine ⟨?_, ?_⟩
            · simp only [put, if_true]
              rw [← h4]
              exact h1
            · simp only [wrong, if_true, h5]
              rfl
    refine ⟨hfirst, ?_⟩
    intro s l hs hs2 ha
    by_cases hne : s = []
    · subst hne
      cases ha
      exact ⟨rfl, rfl⟩
    · rw [all_step hne] at ha
      cases hf : first s with
      | none => rw [hf] at ha; cases ha
      | some q =>
        obtain ⟨x, rest⟩ := q
        rw [hf] at ha
        dsimp only at ha
        obtain ⟨h1, h2⟩ := hfirst s x rest hs hs2 hf
        have hlen : (put x).length + rest.length = s.length := by rw [h1, List.length_append]
        have hp : 0 < (put x).length := List.length_pos_iff.2 (put_ne x)
        cases hr : all rest with
        | none => rw [hr] at ha; cases ha
        | some ys =>
          rw [hr] at ha
          cases ha
          obtain ⟨h3, h4⟩ := ih.2 rest ys (by omega) (by omega) hr
          refine ⟨?_, ?_⟩
          · simp only [putAll]
            rw [← h3]
            exact h1
          · simp only [wrongAny, h2, h4]
            rfl
theorem all_is {s : List UInt8} {l : List Item} (hs : s.length < 9223372036854775808) (h : all s = some l) : s = putAll l ∧ wrongAny l = false := (all_back s.length).2 s l (Nat.le_refl _) hs h
theorem decode_encode {x : Item} {s : List UInt8} (h : encode x = (s, 0)) : decode s = (x, 0) := by
  unfold encode at h
  split at h
  · cases h
  · rename_i hd
    split at h
    · cases h
    · rename_i hw
      split at h
      · cases h
      · rename_i hl
        cases h
        have h1 := first_put x [] (by simpa using hw) (by omega)
        rw [List.append_nil] at h1
        unfold decode
        rw [if_neg hl, all_step (put_ne x), h1]
        simp only [all_nil, Option.map_some]
        rw [if_neg hd]
theorem encode_decode {x : Item} {s : List UInt8} (h : decode s = (x, 0)) : encode x = (s, 0) := by
  unfold decode at h
  split at h
  · cases h
  · rename_i hl
    split at h
    · rename_i y ha
      split at h
      · cases h
      · rename_i hd
        cases h
        obtain ⟨h1, h2⟩ := all_is (by omega) ha
        simp only [putAll, List.append_nil] at h1
        simp only [wrongAny, Bool.or_false] at h2
        unfold encode
        rw [if_neg hd, h2, if_neg (by simp), ← h1, if_neg hl]
    · cases h
theorem encode_ok {x : Item} {s : List UInt8} (h : encode x = (s, 0)) : s = put x ∧ wrong x = false ∧ deep x 12 = false ∧ s.length ≤ 65536 := by
  unfold encode at h
  split at h
  · cases h
  · rename_i hd
    split at h
    · cases h
    · rename_i hw
      split at h
      · cases h
      · rename_i hl
        cases h
        exact ⟨rfl, by simpa using hw, by simpa using hd, by omega⟩
end Go.Proofs.YthicdhnjincflaaGreatDoor
/- Plain items: what is deep, and the bytes of a list of one or two. No program is named. -/
namespace Go.Proofs.YthicdhnjincflaaGreatDoor
open Go.RowKit
mutual
theorem deep_mono : ∀ (x : Item) (m : Nat), deep x (m + 1) = true → deep x m = true
  | .mk _ _ l, 0, _ => by simp [deep]
  | .mk _ _ l, m + 1, h => by
    simp only [deep, Nat.add_eq_zero_iff, Nat.succ_ne_self, and_false, if_false, Nat.add_sub_cancel] at h ⊢
    exact deepAny_mono l m h
theorem deepAny_mono : ∀ (l : List Item) (m : Nat), deepAny l (m + 1) = true → deepAny l m = true
  | [], _, h => by simp [deepAny] at h
  | x :: r, m, h => by
    simp only [deepAny, Bool.or_eq_true] at h ⊢
    rcases h with h | h
    · exact .inl (deep_mono x m h)
    · exact .inr (deepAny_mono r m h)
end
theorem encode_good {x : Item} (h : deep x 12 = false) (h2 : wrong x = false) (h3 : (put x).length ≤ 65536) : encode x = (put x, 0) := by
  unfold encode
  rw [h, h2, if_neg (by simp), if_neg (by simp), if_neg (by omega)]
end Go.Proofs.YthicdhnjincflaaGreatDoor

namespace Go.Proofs.YthicdhnjincflaaGreatDoor
open Go.RowKit
def upd (f : Nat → UInt64) (i : Nat) (v : UInt64) : Nat → UInt64 := fun j => if j = i then v else f j
theorem upd_at (f : Nat → UInt64) (i : Nat) (v : UInt64) : upd f i v i = v := by unfold upd; rw [if_pos rfl]
theorem upd_other (f : Nat → UInt64) {i j : Nat} (v : UInt64) (h : j ≠ i) : upd f i v j = f j := by unfold upd; rw [if_neg h]
def rotl (x : UInt64) (n : Nat) : UInt64 := x <<< UInt64.ofNat n ||| x >>> UInt64.ofNat (64 - n)
def zeroL : Nat → UInt64 := fun _ => 0
def turnsL : List Nat := [1, 3, 6, 10, 15, 21, 28, 36, 45, 55, 2, 14, 27, 41, 56, 8, 25, 43, 62, 18, 39, 61, 20, 44]
def placesL : List Nat := [10, 7, 11, 17, 18, 3, 5, 16, 8, 21, 24, 4, 15, 23, 19, 13, 12, 2, 20, 14, 22, 9, 6, 1]
def constsL : List UInt64 := [0x1, 0x8082, 0x800000000000808a, 0x8000000080008000, 0x808b, 0x80000001, 0x8000000080008081, 0x8000000000008009, 0x8a, 0x88, 0x80008009, 0x8000000a, 0x8000808b, 0x800000000000008b, 0x8000000000008089, 0x8000000000008003, 0x8000000000008002, 0x8000000000000080, 0x800a, 0x800000008000000a, 0x8000000080008081, 0x8000000000008080, 0x80000001, 0x8000000080008008]
/-! the program's way -/
def colP (a : Nat → UInt64) : Nat → Nat → UInt64
  | 0 => zeroL
  | n + 1 => upd (colP a n) (n % 5) (colP a n (n % 5) ^^^ a n)
def thetaP (c : Nat → UInt64) (a : Nat → UInt64) : Nat → Nat → UInt64
  | 0 => a
  | n + 1 => upd (thetaP c a n) n (thetaP c a n n ^^^ (c ((n + 4) % 5) ^^^ rotl (c ((n + 1) % 5)) 1))
def rhoP (a : Nat → UInt64) : Nat → UInt64 × (Nat → UInt64)
  | 0 => (a 1, a)
  | n + 1 => ((rhoP a n).2 (placesL.getD n 0), upd (rhoP a n).2 (placesL.getD n 0) (rotl (rhoP a n).1 (turnsL.getD n 0)))
def chiRow (r : Nat → UInt64) (y : Nat) (a : Nat → UInt64) : Nat → Nat → UInt64
  | 0 => a
  | n + 1 => upd (chiRow r y a n) (y + n) (r n ^^^ (~~~ r ((n + 1) % 5) &&& r ((n + 2) % 5)))
def chiP (a : Nat → UInt64) : Nat → Nat → UInt64
  | 0 => a
  | n + 1 => chiRow (fun x => chiP a n (5 * n + x)) (5 * n) (chiP a n) 5
def roundP (a : Nat → UInt64) (i : Nat) : Nat → UInt64 :=
  let t := thetaP (colP a 25) a 25
  let b := chiP (rhoP t 24).2 5
  upd b 0 (b 0 ^^^ constsL.getD i 0)
def permP (a : Nat → UInt64) : Nat → Nat → UInt64
  | 0 => a
  | n + 1 => roundP (permP a n) n
/-! the document's way -/
def atR (x y : Nat) : Nat := (x + 10) % 5 + 5 * ((y + 10) % 5)
def leftR (x : UInt64) (n : Nat) : UInt64 := if n = 0 then x else rotl x n
def colR (a : Nat → UInt64) : Nat → Nat → UInt64
  | 0 => zeroL
  | n + 1 => upd (colR a n) (n / 5) (colR a n (n / 5) ^^^ a (atR (n / 5) (n % 5)))
def rhoR (c : Nat → UInt64) (r : Nat → Nat) (a : Nat → UInt64) : Nat → Nat → UInt64
  | 0 => zeroL
  | n + 1 => upd (rhoR c r a n) (atR (n % 5) (2 * (n / 5) + 3 * (n % 5))) (leftR (a (atR (n / 5) (n % 5)) ^^^ c ((n / 5 + 4) % 5) ^^^ leftR (c ((n / 5 + 1) % 5)) 1) (r (atR (n / 5) (n % 5))))
def chiR (b : Nat → UInt64) : Nat → Nat → UInt64
  | 0 => zeroL
  | n + 1 => upd (chiR b n) (atR (n / 5) (n % 5)) (b (atR (n / 5) (n % 5)) ^^^ (~~~ b (atR (n / 5 + 1) (n % 5)) &&& b (atR (n / 5 + 2) (n % 5))))
def turnsR : Nat → Nat × Nat × (Nat → Nat)
  | 0 => (1, 0, fun _ => 0)
  | t + 1 =>
    let (x, y, f) := turnsR t
    (y, (2 * x + 3 * y) % 5, fun j => if j = atR x y then (t + 1) * (t + 2) / 2 % 64 else f j)
def constR (i : Nat) : Nat → Nat × UInt64
  | 0 => (1, 0)
  | n + 1 =>
    let (row, out) := constR i n
    let o := if 7 * i ≤ n ∧ row % 2 = 1 then out ||| 1 <<< UInt64.ofNat (2 ^ (n - 7 * i) - 1) else out
    let row2 := 2 * row
    (if row2 ≥ 256 then row2 ^^^ 0x171 else row2, o)
def roundR (a : Nat → UInt64) (i : Nat) : Nat → UInt64 :=
  let b := chiR (rhoR (colR a 25) (turnsR 24).2.2 a 25) 25
  upd b 0 (b 0 ^^^ (constR i (7 * i + 7)).2)
def permR (a : Nat → UInt64) : Nat → Nat → UInt64
  | 0 => a
  | n + 1 => roundR (permR a n) n
/-! both are one -/
theorem col_one (a : Nat → UInt64) (x : Nat) (hx : x < 5) : colP a 25 x = colR a 25 x := by
  match x, hx with
  | 0, _ => rfl
  | 1, _ => rfl
  | 2, _ => rfl
  | 3, _ => rfl
  | 4, _ => rfl
theorem theta_at (c a : Nat → UInt64) (m j : Nat) : thetaP c a m j = if j < m then a j ^^^ (c ((j + 4) % 5) ^^^ rotl (c ((j + 1) % 5)) 1) else a j := by
  induction m generalizing j with
  | zero => rfl
  | succ m ih =>
    unfold thetaP
    by_cases h : j = m
    · subst h
      rw [upd_at, if_pos (Nat.lt_succ_self _), ih j, if_neg (Nat.lt_irrefl _)]
    · rw [upd_other _ _ h, ih j]
      by_cases h2 : j < m
      · rw [if_pos h2, if_pos (by omega)]
      · rw [if_neg h2, if_neg (by omega)]
def laneT (c a : Nat → UInt64) (j : Nat) : UInt64 := a j ^^^ c ((j + 4) % 5) ^^^ rotl (c ((j + 1) % 5)) 1
theorem theta_lane (c a : Nat → UInt64) (j : Nat) (h : j < 25) : thetaP c a 25 j = laneT c a j := by
  rw [theta_at, if_pos h]
  unfold laneT
  rw [UInt64.xor_assoc]
theorem turns_all : (List.range 25).map (turnsR 24).2.2 = [0, 1, 62, 28, 27, 36, 44, 6, 55, 20, 3, 10, 43, 25, 39, 41, 45, 15, 21, 8, 18, 2, 61, 56, 14] := by decide +kernel
theorem turn_at (j : Nat) (h : j < 25) : (turnsR 24).2.2 j = ([0, 1, 62, 28, 27, 36, 44, 6, 55, 20, 3, 10, 43, 25, 39, 41, 45, 15, 21, 8, 18, 2, 61, 56, 14] : List Nat).getD j 0 := by
  rw [← turns_all, List.getD_eq_getElem?_getD, List.getElem?_map, List.getElem?_range h]
  rfl
theorem leftR_pos (x : UInt64) {n : Nat} (h : n ≠ 0) : leftR x n = rotl x n := by unfold leftR; rw [if_neg h]
def laneB (t : Nat → UInt64) (j : Nat) : UInt64 := leftR (t (([0, 6, 12, 18, 24, 3, 9, 10, 16, 22, 1, 7, 13, 19, 20, 4, 5, 11, 17, 23, 2, 8, 14, 15, 21] : List Nat).getD j 0)) (([0, 44, 43, 21, 14, 28, 20, 3, 45, 61, 1, 6, 25, 8, 18, 27, 36, 10, 15, 56, 62, 55, 39, 41, 2] : List Nat).getD j 0)
theorem rhoP_at (t : Nat → UInt64) (j : Nat) (h : j < 25) : (rhoP t 24).2 j = laneB t j := by
  have hjs : j = 0 ∨ j = 1 ∨ j = 2 ∨ j = 3 ∨ j = 4 ∨ j = 5 ∨ j = 6 ∨ j = 7 ∨ j = 8 ∨ j = 9 ∨ j = 10 ∨ j = 11 ∨ j = 12 ∨ j = 13 ∨ j = 14 ∨ j = 15 ∨ j = 16 ∨ j = 17 ∨ j = 18 ∨ j = 19 ∨ j = 20 ∨ j = 21 ∨ j = 22 ∨ j = 23 ∨ j = 24 := by omega
  rcases hjs with rfl | rfl | rfl | rfl | rfl | rfl | rfl | rfl | rfl | rfl | rfl | rfl | rfl | rfl | rfl | rfl | rfl | rfl | rfl | rfl | rfl | rfl | rfl | rfl | rfl
  · rfl
  · rfl
  · rfl
  · rfl
  · rfl
  · rfl
  · rfl
  · rfl
  · rfl
  · rfl
  · rfl
  · rfl
  · rfl
  · rfl
  · rfl
  · rfl
  · rfl
  · rfl
  · rfl
  · rfl
  · rfl
  · rfl
  · rfl
  · rfl
  · rfl
theorem rhoR_at (c a : Nat → UInt64) (j : Nat) (h : j < 25) : rhoR c (turnsR 24).2.2 a 25 j = laneB (laneT c a) j := by
  have hjs : j = 0 ∨ j = 1 ∨ j = 2 ∨ j = 3 ∨ j = 4 ∨ j = 5 ∨ j = 6 ∨ j = 7 ∨ j = 8 ∨ j = 9 ∨ j = 10 ∨ j = 11 ∨ j = 12 ∨ j = 13 ∨ j = 14 ∨ j = 15 ∨ j = 16 ∨ j = 17 ∨ j = 18 ∨ j = 19 ∨ j = 20 ∨ j = 21 ∨ j = 22 ∨ j = 23 ∨ j = 24 := by omega
  rcases hjs with rfl | rfl | rfl | rfl | rfl | rfl | rfl | rfl | rfl | rfl | rfl | rfl | rfl | rfl | rfl | rfl | rfl | rfl | rfl | rfl | rfl | rfl | rfl | rfl | rfl
  · have h : rhoR c (turnsR 24).2.2 a 25 0 = leftR (laneT c a 0) ((turnsR 24).2.2 0) := rfl
    exact h.trans (by rw [turn_at 0 (by decide)]; rfl)
  · have h : rhoR c (turnsR 24).2.2 a 25 1 = leftR (laneT c a 6) ((turnsR 24).2.2 6) := rfl
    exact h.trans (by rw [turn_at 6 (by decide)]; rfl)
  · have h : rhoR c (turnsR 24).2.2 a 25 2 = leftR (laneT c a 12) ((turnsR 24).2.2 12) := rfl
    exact h.trans (by rw [turn_at 12 (by decide)]; rfl)
  · have h : rhoR c (turnsR 24).2.2 a 25 3 = leftR (laneT c a 18) ((turnsR 24).2.2 18) := rfl
    exact h.trans (by rw [turn_at 18 (by decide)]; rfl)
  · have h : rhoR c (turnsR 24).2.2 a 25 4 = leftR (laneT c a 24) ((turnsR 24).2.2 24) := rfl
    exact h.trans (by rw [turn_at 24 (by decide)]; rfl)
  · have h : rhoR c (turnsR 24).2.2 a 25 5 = leftR (laneT c a 3) ((turnsR 24).2.2 3) := rfl
    exact h.trans (by rw [turn_at 3 (by decide)]; rfl)
  · have h : rhoR c (turnsR 24).2.2 a 25 6 = leftR (laneT c a 9) ((turnsR 24).2.2 9) := rfl
    exact h.trans (by rw [turn_at 9 (by decide)]; rfl)
  · have h : rhoR c (turnsR 24).2.2 a 25 7 = leftR (laneT c a 10) ((turnsR 24).2.2 10) := rfl
    exact h.trans (by rw [turn_at 10 (by decide)]; rfl)
  · have h : rhoR c (turnsR 24).2.2 a 25 8 = leftR (laneT c a 16) ((turnsR 24).2.2 16) := rfl
    exact h.trans (by rw [turn_at 16 (by decide)]; rfl)
  · have h : rhoR c (turnsR 24).2.2 a 25 9 = leftR (laneT c a 22) ((turnsR 24).2.2 22) := rfl
    exact h.trans (by rw [turn_at 22 (by decide)]; rfl)
  · have h : rhoR c (turnsR 24).2.2 a 25 10 = leftR (laneT c a 1) ((turnsR 24).2.2 1) := rfl
    exact h.trans (by rw [turn_at 1 (by decide)]; rfl)
  · have h : rhoR c (turnsR 24).2.2 a 25 11 = leftR (laneT c a 7) ((turnsR 24).2.2 7) := rfl
    exact h.trans (by rw [turn_at 7 (by decide)]; rfl)
  · have h : rhoR c (turnsR 24).2.2 a 25 12 = leftR (laneT c a 13) ((turnsR 24).2.2 13) := rfl
    exact h.trans (by rw [turn_at 13 (by decide)]; rfl)
  · have h : rhoR c (turnsR 24).2.2 a 25 13 = leftR (laneT c a 19) ((turnsR 24).2.2 19) := rfl
    exact h.trans (by rw [turn_at 19 (by decide)]; rfl)
  · have h : rhoR c (turnsR 24).2.2 a 25 14 = leftR (laneT c a 20) ((turnsR 24).2.2 20) := rfl
    exact h.trans (by rw [turn_at 20 (by decide)]; rfl)
  · have h : rhoR c (turnsR 24).2.2 a 25 15 = leftR (laneT c a 4) ((turnsR 24).2.2 4) := rfl
    exact h.trans (by rw [turn_at 4 (by decide)]; rfl)
  · have h : rhoR c (turnsR 24).2.2 a 25 16 = leftR (laneT c a 5) ((turnsR 24).2.2 5) := rfl
    exact h.trans (by rw [turn_at 5 (by decide)]; rfl)
  · have h : rhoR c (turnsR 24).2.2 a 25 17 = leftR (laneT c a 11) ((turnsR 24).2.2 11) := rfl
    exact h.trans (by rw [turn_at 11 (by decide)]; rfl)
  · have h : rhoR c (turnsR 24).2.2 a 25 18 = leftR (laneT c a 17) ((turnsR 24).2.2 17) := rfl
    exact h.trans (by rw [turn_at 17 (by decide)]; rfl)
  · have h : rhoR c (turnsR 24).2.2 a 25 19 = leftR (laneT c a 23) ((turnsR 24).2.2 23) := rfl
    exact h.trans (by rw [turn_at 23 (by decide)]; rfl)
  · have h : rhoR c (turnsR 24).2.2 a 25 20 = leftR (laneT c a 2) ((turnsR 24).2.2 2) := rfl
    exact h.trans (by rw [turn_at 2 (by decide)]; rfl)
  · have h : rhoR c (turnsR 24).2.2 a 25 21 = leftR (laneT c a 8) ((turnsR 24).2.2 8) := rfl
    exact h.trans (by rw [turn_at 8 (by decide)]; rfl)
  · have h : rhoR c (turnsR 24).2.2 a 25 22 = leftR (laneT c a 14) ((turnsR 24).2.2 14) := rfl
    exact h.trans (by rw [turn_at 14 (by decide)]; rfl)
  · have h : rhoR c (turnsR 24).2.2 a 25 23 = leftR (laneT c a 15) ((turnsR 24).2.2 15) := rfl
    exact h.trans (by rw [turn_at 15 (by decide)]; rfl)
  · have h : rhoR c (turnsR 24).2.2 a 25 24 = leftR (laneT c a 21) ((turnsR 24).2.2 21) := rfl
    exact h.trans (by rw [turn_at 21 (by decide)]; rfl)
def laneC (b : Nat → UInt64) (j : Nat) : UInt64 := b j ^^^ (~~~ b (5 * (j / 5) + (j % 5 + 1) % 5) &&& b (5 * (j / 5) + (j % 5 + 2) % 5))
theorem chiR_at (b : Nat → UInt64) (j : Nat) (h : j < 25) : chiR b 25 j = laneC b j := by
  have hjs : j = 0 ∨ j = 1 ∨ j = 2 ∨ j = 3 ∨ j = 4 ∨ j = 5 ∨ j = 6 ∨ j = 7 ∨ j = 8 ∨ j = 9 ∨ j = 10 ∨ j = 11 ∨ j = 12 ∨ j = 13 ∨ j = 14 ∨ j = 15 ∨ j = 16 ∨ j = 17 ∨ j = 18 ∨ j = 19 ∨ j = 20 ∨ j = 21 ∨ j = 22 ∨ j = 23 ∨ j = 24 := by omega
  rcases hjs with rfl | rfl | rfl | rfl | rfl | rfl | rfl | rfl | rfl | rfl | rfl | rfl | rfl | rfl | rfl | rfl | rfl | rfl | rfl | rfl | rfl | rfl | rfl | rfl | rfl
  · rfl
  · rfl
  · rfl
  · rfl
  · rfl
  · rfl
  · rfl
  · rfl
  · rfl
  · rfl
  · rfl
  · rfl
  · rfl
  · rfl
  · rfl
  · rfl
  · rfl
  · rfl
  · rfl
  · rfl
  · rfl
  · rfl
  · rfl
  · rfl
  · rfl
theorem chiRow_at (r : Nat → UInt64) (y : Nat) (a : Nat → UInt64) (n j : Nat) : chiRow r y a n j = if y ≤ j ∧ j < y + n then r (j - y) ^^^ (~~~ r ((j - y + 1) % 5) &&& r ((j - y + 2) % 5)) else a j := by
  induction n generalizing j with
  | zero => unfold chiRow; rw [if_neg (by omega)]
  | succ n ih =>
    unfold chiRow
    by_cases h : j = y + n
    · subst h
      rw [upd_at, if_pos (by omega), Nat.add_sub_cancel_left]
    · rw [upd_other _ _ h, ih j]
      by_cases h2 : y ≤ j ∧ j < y + n
      · rw [if_pos h2, if_pos (by omega)]
      · rw [if_neg h2, if_neg (by omega)]
theorem chiP_at (b : Nat → UInt64) (n j : Nat) : chiP b n j = if j < 5 * n then laneC b j else b j := by
  induction n generalizing j with
  | zero => rfl
  | succ n ih =>
    unfold chiP
    rw [chiRow_at]
    by_cases h : 5 * n ≤ j ∧ j < 5 * n + 5
    · rw [if_pos h, if_pos (by omega), ih (5 * n + (j - 5 * n)), if_neg (by omega), ih (5 * n + (j - 5 * n + 1) % 5), if_neg (by omega), ih (5 * n + (j - 5 * n + 2) % 5), if_neg (by omega)]
      unfold laneC
      rw [show 5 * n + (j - 5 * n) = j by omega, show j / 5 = n by omega, show j - 5 * n = j % 5 by omega]
    · rw [if_neg h, ih j]
      by_cases h2 : j < 5 * n
      · rw [if_pos h2, if_pos (by omega)]
      · rw [if_neg h2, if_neg (by omega)]
theorem laneC_ext {b b' : Nat → UInt64} (h : ∀ j, j < 25 → b j = b' j) (j : Nat) (hj : j < 25) : laneC b j = laneC b' j := by
  unfold laneC
  rw [h j hj, h _ (by omega), h _ (by omega)]
theorem laneB_ext {b b' : Nat → UInt64} (h : ∀ j, j < 25 → b j = b' j) (j : Nat) (hj : j < 25) : laneB b j = laneB b' j := by
  have hjs : j = 0 ∨ j = 1 ∨ j = 2 ∨ j = 3 ∨ j = 4 ∨ j = 5 ∨ j = 6 ∨ j = 7 ∨ j = 8 ∨ j = 9 ∨ j = 10 ∨ j = 11 ∨ j = 12 ∨ j = 13 ∨ j = 14 ∨ j = 15 ∨ j = 16 ∨ j = 17 ∨ j = 18 ∨ j = 19 ∨ j = 20 ∨ j = 21 ∨ j = 22 ∨ j = 23 ∨ j = 24 := by omega
  rcases hjs with rfl | rfl | rfl | rfl | rfl | rfl | rfl | rfl | rfl | rfl | rfl | rfl | rfl | rfl | rfl | rfl | rfl | rfl | rfl | rfl | rfl | rfl | rfl | rfl | rfl
  · exact congrArg (fun v => leftR v 0) (h 0 (by decide))
  · exact congrArg (fun v => leftR v 44) (h 6 (by decide))
  · exact congrArg (fun v => leftR v 43) (h 12 (by decide))
  · exact congrArg (fun v => leftR v 21) (h 18 (by decide))
  · exact congrArg (fun v => leftR v 14) (h 24 (by decide))
  · exact congrArg (fun v => leftR v 28) (h 3 (by decide))
  · exact congrArg (fun v => leftR v 20) (h 9 (by decide))
  · exact congrArg (fun v => leftR v 3) (h 10 (by decide))
  · exact congrArg (fun v => leftR v 45) (h 16 (by decide))
  · exact congrArg (fun v => leftR v 61) (h 22 (by decide))
  · exact congrArg (fun v => leftR v 1) (h 1 (by decide))
  · exact congrArg (fun v => leftR v 6) (h 7 (by decide))
  · exact congrArg (fun v => leftR v 25) (h 13 (by decide))
  · exact congrArg (fun v => leftR v 8) (h 19 (by decide))
  · exact congrArg (fun v => leftR v 18) (h 20 (by decide))
  · exact congrArg (fun v => leftR v 27) (h 4 (by decide))
  · exact congrArg (fun v => leftR v 36) (h 5 (by decide))
  · exact congrArg (fun v => leftR v 10) (h 11 (by decide))
  · exact congrArg (fun v => leftR v 15) (h 17 (by decide))
  · exact congrArg (fun v => leftR v 56) (h 23 (by decide))
  · exact congrArg (fun v => leftR v 62) (h 2 (by decide))
  · exact congrArg (fun v => leftR v 55) (h 8 (by decide))
  · exact congrArg (fun v => leftR v 39) (h 14 (by decide))
  · exact congrArg (fun v => leftR v 41) (h 15 (by decide))
  · exact congrArg (fun v => leftR v 2) (h 21 (by decide))
theorem laneT_ext {c c' a a' : Nat → UInt64} (hc : ∀ j, j < 5 → c j = c' j) (h : ∀ j, j < 25 → a j = a' j) (j : Nat) (hj : j < 25) : laneT c a j = laneT c' a' j := by
  unfold laneT
  rw [h j hj, hc _ (Nat.mod_lt _ (by decide)), hc _ (Nat.mod_lt _ (by decide))]
theorem consts_all : (List.range 24).map (fun i => (constR i (7 * i + 7)).2) = constsL := by decide +kernel
theorem const_at (i : Nat) (h : i < 24) : (constR i (7 * i + 7)).2 = constsL.getD i 0 := by
  rw [← consts_all, List.getD_eq_getElem?_getD, List.getElem?_map, List.getElem?_range h]
  rfl
def roundK (a : Nat → UInt64) (i : Nat) (j : Nat) : UInt64 :=
  let b := fun j => laneC (laneB (laneT (colR a 25) a)) j
  if j = 0 then b 0 ^^^ constsL.getD i 0 else b j
theorem roundP_at (a : Nat → UInt64) (i j : Nat) (hj : j < 25) : roundP a i j = roundK a i j := by
  have h : ∀ j, j < 25 → chiP (rhoP (thetaP (colP a 25) a 25) 24).2 5 j = laneC (laneB (laneT (colR a 25) a)) j := fun j hj => by
    rw [chiP_at, if_pos (by omega)]
    refine laneC_ext (fun k hk => ?_) j hj
    rw [rhoP_at _ _ hk]
    refine laneB_ext (fun m hm => ?_) k hk
    rw [theta_lane _ _ _ hm]
    exact laneT_ext (fun x hx => col_one a x hx) (fun _ _ => rfl) m hm
  show upd _ 0 _ j = _
  unfold roundK upd
  by_cases h0 : j = 0
  · rw [if_pos h0]
    simp only [if_pos h0]
    rw [h 0 (by decide)]
  · rw [if_neg h0]
    simp only [if_neg h0]
    rw [h j hj]
theorem roundR_at (a : Nat → UInt64) (i j : Nat) (hi : i < 24) (hj : j < 25) : roundR a i j = roundK a i j := by
  have h : ∀ j, j < 25 → chiR (rhoR (colR a 25) (turnsR 24).2.2 a 25) 25 j = laneC (laneB (laneT (colR a 25) a)) j := fun j hj => by
    rw [chiR_at _ _ hj]
    exact laneC_ext (fun k hk => rhoR_at _ _ _ hk) j hj
  show upd _ 0 _ j = _
  unfold roundK upd
  by_cases h0 : j = 0
  · rw [if_pos h0]
    simp only [if_pos h0]
    rw [h 0 (by decide), const_at i hi]
  · rw [if_neg h0]
    simp only [if_neg h0]
    rw [h j hj]
theorem colR_ext {a a' : Nat → UInt64} (h : ∀ j, j < 25 → a j = a' j) (n x : Nat) (hn : n ≤ 25) : colR a n x = colR a' n x := by
  induction n generalizing x with
  | zero => rfl
  | succ n ih =>
    unfold colR upd
    rw [ih (n / 5) (by omega), ih x (by omega), h (atR (n / 5) (n % 5)) (by unfold atR; omega)]
theorem roundK_ext {a a' : Nat → UInt64} (h : ∀ j, j < 25 → a j = a' j) (i j : Nat) (hj : j < 25) : roundK a i j = roundK a' i j := by
  have h2 : ∀ j, j < 25 → laneC (laneB (laneT (colR a 25) a)) j = laneC (laneB (laneT (colR a' 25) a')) j := fun j hj =>
    laneC_ext (fun k hk => laneB_ext (fun m hm => laneT_ext (fun x _ => colR_ext h 25 x (Nat.le_refl _)) h m hm) k hk) j hj
  unfold roundK
  by_cases h0 : j = 0
  · simp only [if_pos h0]
    rw [h2 0 (by decide)]
  · simp only [if_neg h0]
    rw [h2 j hj]
theorem perm_one {a a' : Nat → UInt64} (h : ∀ j, j < 25 → a j = a' j) (n j : Nat) (hn : n ≤ 24) (hj : j < 25) : permP a n j = permR a' n j := by
  induction n generalizing j with
  | zero => exact h j hj
  | succ n ih =>
    unfold permP permR
    rw [roundP_at _ _ _ hj, roundR_at _ _ _ (by omega) hj]
    exact roundK_ext (fun k hk => ih k (by omega) hk) n j hj
end Go.Proofs.YthicdhnjincflaaGreatDoor
/- Plain Keccak: a text's digest; a quicker way to reckon it. No program is named. -/
namespace Go.Proofs.YthicdhnjincflaaGreatDoor
open Go.RowKit
def kzeros (s : List UInt8) : List UInt8 := s ++ 1 :: List.replicate ((136 - (s.length + 1) % 136) % 136) 0
def klast (l : List UInt8) : List UInt8 := l.set (l.length - 1) (l.getD (l.length - 1) 0 ^^^ 0x80)
def kpad (s : List UInt8) : List UInt8 := klast (kzeros s)
theorem kpad_length (s : List UInt8) : (kpad s).length = (kzeros s).length := by unfold kpad klast; rw [List.length_set]
def absN (b : List UInt8) (off : Nat) (a : Nat → UInt64) : Nat → Nat → UInt64
  | 0 => a
  | n + 1 => upd (absN b off a n) (n / 8) (absN b off a n (n / 8) ^^^ ((b.getD (off + n) 0).toUInt64 <<< UInt64.ofNat (8 * (n % 8))))
theorem absN_ext {a a' : Nat → UInt64} (b : List UInt8) (off : Nat) (h : ∀ j, j < 25 → a j = a' j) (n j : Nat) (hn : n ≤ 136) (hj : j < 25) : absN b off a n j = absN b off a' n j := by
  induction n generalizing j with
  | zero => exact h j hj
  | succ n ih =>
    unfold absN upd
    rw [ih (n / 8) (by omega) (by omega), ih j (by omega) hj]
def blkP (b : List UInt8) : Nat → Nat → UInt64
  | 0 => zeroL
  | k + 1 => permP (absN b (136 * k) (blkP b k) 136) 24
def blkR (b : List UInt8) : Nat → Nat → UInt64
  | 0 => zeroL
  | k + 1 => permR (absN b (136 * k) (blkR b k) 136) 24
theorem blk_one (b : List UInt8) (k j : Nat) (hj : j < 25) : blkP b k j = blkR b k j := by
  induction k generalizing j with
  | zero => rfl
  | succ k ih =>
    unfold blkP blkR
    exact perm_one (fun i hi => absN_ext b _ (fun m hm => ih m hm) 136 i (Nat.le_refl _) hi) 24 j (Nat.le_refl _) hj
def kout (a : Nat → UInt64) (n : Nat) : List UInt8 := (List.range n).map fun i => (a (i / 8) >>> UInt64.ofNat (8 * (i % 8))).toUInt8
theorem kout_ext {a a' : Nat → UInt64} (h : ∀ j, j < 25 → a j = a' j) : kout a 32 = kout a' 32 := by
  unfold kout
  refine List.map_congr_left (fun i hi => ?_)
  rw [List.mem_range] at hi
  rw [h _ (by omega)]
theorem kout_length (a : Nat → UInt64) (n : Nat) : (kout a n).length = n := by unfold kout; simp
theorem kout_succ (a : Nat → UInt64) (n : Nat) : kout a (n + 1) = kout a n ++ [(a (n / 8) >>> UInt64.ofNat (8 * (n % 8))).toUInt8] := by
  unfold kout
  rw [List.range_succ, List.map_append]
  rfl
def keccakL (s : List UInt8) : List UInt8 := kout (blkR (kpad s) ((kpad s).length / 136)) 32
theorem keccakL_length (s : List UInt8) : (keccakL s).length = 32 := kout_length _ _
theorem keccakL_P (s : List UInt8) : kout (blkP (kpad s) ((kpad s).length / 136)) 32 = keccakL s := kout_ext (fun j hj => blk_one _ _ j hj)
end Go.Proofs.YthicdhnjincflaaGreatDoor
