/- Plain functions of paths of half bytes, as lists of bytes: no program is named. -/
import Derived.Test.YtjccllfgendpdaaDoorKit
import Derived.Lib.SlTrimSet
namespace Go.Proofs.YtjccllfgendpdaaDoor
open Go.RowKit

theorem bits_u8_and (a b : UInt8) : bits .and .u8 a.toNat b.toNat = ((a &&& b).toNat : Int) := by
  rw [(bits_nat .u8 8 (by decide) wraps_u8 a.toNat b.toNat a.toNat_lt b.toNat_lt).1]; simp
theorem bits_u8_or (a b : UInt8) : bits .or .u8 a.toNat b.toNat = ((a ||| b).toNat : Int) := by
  rw [(bits_nat .u8 8 (by decide) wraps_u8 a.toNat b.toNat a.toNat_lt b.toNat_lt).2]; simp

/-- the byte of a string at a place -/
theorem byte_at (s : ByteArray) (k : Nat) (h : k < s.size) : s.data.toList[k]? = some s[k] := by
  simp [ByteArray.getElem_eq_getElem_data]
theorem len_data (s : ByteArray) : s.data.toList.length = s.size := rfl
theorem take_snoc (s : ByteArray) (k : Nat) (h : k < s.size) : s.data.toList.take (k + 1) = s.data.toList.take k ++ [s[k]] := by
  rw [List.take_add_one, byte_at s k h]; rfl
theorem take_all (s : ByteArray) (k : Nat) (h : s.size ≤ k) : s.data.toList.take k = s.data.toList := List.take_of_length_le (by rw [len_data]; exact h)

/-- a byte's half bytes, and the byte of two -/
def hiN (b : UInt8) : UInt8 := b >>> (4 : UInt8)
def loN (b : UInt8) : UInt8 := b &&& (15 : UInt8)
def joinN (a b : UInt8) : UInt8 := a <<< (4 : UInt8) ||| b
/-- a text's half bytes -/
def halves (l : List UInt8) : List UInt8 := l.flatMap fun (b : UInt8) => [hiN b, loN b]
theorem halves_append (l r : List UInt8) : halves (l ++ r) = halves l ++ halves r := by simp [halves]
theorem halves_one (b : UInt8) : halves [b] = [hiN b, loN b] := by simp [halves]
theorem halves_nil : halves [] = [] := rfl
theorem halves_length (l : List UInt8) : (halves l).length = 2 * l.length := by
  induction l with
  | nil => rfl
  | cons a l ih =>
    show (halves ([a] ++ l)).length = _
    rw [halves_append, List.length_append, ih, halves_one]; simp; omega
theorem u8_hi (b : UInt8) : (b.toNat : Int) / 16 = ((hiN b).toNat : Int) := by
  unfold hiN
  rw [UInt8.toNat_shiftRight]
  have : (4 : UInt8).toNat % 8 = 4 := rfl
  rw [this, Nat.shiftRight_eq_div_pow]
  omega
theorem u8_lo (b : UInt8) : bits .and .u8 b.toNat 15 = ((loN b).toNat : Int) := bits_u8_and b 15
theorem u8_shl4 (a : UInt8) : IntKind.u8.wrap ((a.toNat : Int) * 16) = ((a <<< (4 : UInt8)).toNat : Int) := by
  rw [UInt8.toNat_shiftLeft, IntKind.wrap_u8]
  have : (4 : UInt8).toNat % 8 = 4 := rfl
  rw [this, Nat.shiftLeft_eq]
  omega
theorem u8_join (a b : UInt8) : bits .or .u8 (IntKind.u8.wrap ((a.toNat : Int) * 16)) b.toNat = ((joinN a b).toNat : Int) := by
  rw [u8_shl4, bits_u8_or]; rfl

/-- how much two lists have alike -/
def common : List UInt8 → List UInt8 → Nat
  | a :: l, b :: r => if a = b then common l r + 1 else 0
  | _, _ => 0
theorem common_full {l r : List UInt8} {k : Nat} (hk : k ≤ l.length) (hk' : k ≤ r.length) (h : ∀ i, i < k → l[i]? = r[i]?) (hend : k = l.length ∨ k = r.length ∨ l[k]? ≠ r[k]?) : common l r = k := by
  induction l generalizing r k with
  | nil => simp at hk; subst hk; simp [common]
  | cons a l ih =>
    cases r with
    | nil => simp at hk'; subst hk'; simp [common]
    | cons b r =>
      simp only [common]
      cases k with
      | zero =>
        have : a ≠ b := by simpa using hend
        simp [this]
      | succ k =>
        have h0 := h 0 (by omega)
        simp at h0; subst h0
        simp
        apply ih
        · simpa using hk
        · simpa using hk'
        · intro i hi; have := h (i+1) (by omega); simpa using this
        · simpa using hend
theorem u8_int_inj {a b : UInt8} (h : (a.toNat : Int) = b.toNat) : a = b := UInt8.toNat_inj.1 (by omega)
theorem alike_succ {l r : ByteArray} {k : Nat} (h : ∀ i, i < k → l.data.toList[i]? = r.data.toList[i]?) (h1 : k < l.size) (h2 : k < r.size) (e : ((l[k].toNat : Int) != r[k].toNat) = false) :
    ∀ i, i < k + 1 → l.data.toList[i]? = r.data.toList[i]? := by
  intro i hi
  by_cases hik : i = k
  · subst hik
    have e' : (l[i].toNat : Int) = r[i].toNat := by simpa using e
    rw [byte_at _ _ h1, byte_at _ _ h2, u8_int_inj e']
  · exact h i (by omega)
theorem common_ne {l r : ByteArray} {k : Nat} (h : ∀ i, i < k → l.data.toList[i]? = r.data.toList[i]?) (h1 : k < l.size) (h2 : k < r.size) (e : ((l[k].toNat : Int) != r[k].toNat) = true) :
    common l.data.toList r.data.toList = k := by
  refine common_full (by rw [len_data]; omega) (by rw [len_data]; omega) h (.inr (.inr ?_))
  have e' : ¬ (l[k].toNat : Int) = r[k].toNat := by simpa using e
  rw [byte_at _ _ h1, byte_at _ _ h2]
  intro he
  exact e' (by rw [Option.some.inj he])
theorem common_end {l r : ByteArray} {k : Nat} (h : ∀ i, i < k → l.data.toList[i]? = r.data.toList[i]?) (h1 : k ≤ l.size) (h2 : k ≤ r.size) (e : ¬ (k < l.size ∧ k < r.size)) :
    common l.data.toList r.data.toList = k :=
  common_full (by rw [len_data]; omega) (by rw [len_data]; omega) h (by rw [len_data, len_data]; omega)
theorem common_le (l r : List UInt8) : common l r ≤ l.length ∧ common l r ≤ r.length := by
  induction l generalizing r with
  | nil => simp [common]
  | cons a l ih =>
    cases r with
    | nil => simp [common]
    | cons b r =>
      simp only [common]
      split
      · have := ih r; simp; omega
      · simp
theorem common_comm (l r : List UInt8) : common l r = common r l := by
  induction l generalizing r with
  | nil => cases r <;> simp [common]
  | cons a l ih =>
    cases r with
    | nil => simp [common]
    | cons b r =>
      simp only [common]
      rw [ih r]
      by_cases h : a = b
      · simp [h]
      · simp [h, Ne.symm h]
theorem common_take (l r : List UInt8) : l.take (common l r) = r.take (common l r) := by
  induction l generalizing r with
  | nil => simp [common]
  | cons a l ih =>
    cases r with
    | nil => simp [common]
    | cons b r =>
      simp only [common]
      split
      · rename_i h; subst h; simp [ih r]
      · simp
theorem common_next (l r : List UInt8) (h1 : common l r < l.length) (h2 : common l r < r.length) : l[common l r]? ≠ r[common l r]? := by
  induction l generalizing r with
  | nil => simp at h1
  | cons a l ih =>
    cases r with
    | nil => simp at h2
    | cons b r =>
      simp only [common] at h1 h2 ⊢
      split
      · rename_i h; subst h
        simp at h1 h2
        simpa using ih r h1 h2
      · rename_i h
        simpa using h
theorem common_ge {l r : List UInt8} {k : Nat} (hk : k ≤ l.length) (hk' : k ≤ r.length) (h : l.take k = r.take k) : k ≤ common l r := by
  induction k generalizing l r with
  | zero => omega
  | succ k ih =>
    cases l with
    | nil => simp at hk
    | cons a l =>
      cases r with
      | nil => simp at hk'
      | cons b r =>
        simp at h
        obtain ⟨rfl, h⟩ := h
        have := @ih l r (by simpa using hk) (by simpa using hk') h
        simp [common]; omega
theorem common_halves (l r : List UInt8) : 2 * common l r ≤ common (halves l) (halves r) := by
  have h := common_take l r
  have hl := common_le l r
  apply common_ge
  · rw [halves_length]; omega
  · rw [halves_length]; omega
  · have e : ∀ x : List UInt8, common l r ≤ x.length → (halves x).take (2 * common l r) = halves (x.take (common l r)) := by
      intro x hx
      conv => lhs; rw [← List.take_append_drop (common l r) x, halves_append]
      rw [List.take_append_of_le_length (by rw [halves_length, List.length_take]; omega)]
      exact List.take_of_length_le (by rw [halves_length, List.length_take]; omega)
    rw [e l (by omega), e r (by omega), h]

/-- is a text a path? -/
def isPath (l : List UInt8) : Bool := l.all fun (b : UInt8) => decide (b.toNat ≤ 15)

/-- two half bytes a byte -/
def pairUp : List UInt8 → List UInt8
  | a :: b :: r => joinN a b :: pairUp r
  | _ => []
/-- the half bytes of a path's form -/
def formHalves (path : List UInt8) (leaf : Bool) : List UInt8 :=
  if path.length % 2 = 1 then (if leaf then 3 else 1) :: path else (if leaf then 2 else 0) :: 0 :: path
/-- a path's form, and the error -/
def form (path : List UInt8) (leaf : Bool) : List UInt8 × Int := if isPath path then (pairUp (formHalves path leaf), 0) else ([], 2)
/-- a form's path, whether it is a leaf's, and the error -/
def read (s : List UInt8) : List UInt8 × Bool × Int :=
  match halves s with
  | m :: z :: r => if m.toNat > 3 ∨ (m.toNat % 2 = 0 ∧ z ≠ 0) then ([], false, 50) else if m.toNat % 2 = 0 then (r, decide (m.toNat = 2), 0) else (z :: r, decide (m.toNat = 3), 0)
  | _ => ([], false, 50)

theorem isPath_false (s : ByteArray) (k : Nat) (h : k < s.size) (e : 15 < (s[k].toNat : Int)) : isPath s.data.toList = false := by
  unfold isPath
  rw [List.all_eq_false]
  refine ⟨s[k], List.mem_of_getElem? (byte_at s k h), ?_⟩
  simp; omega
theorem isPath_true (s : ByteArray) (h : ∀ i (hi : i < s.size), (s[i].toNat : Int) ≤ 15) : isPath s.data.toList = true := by
  unfold isPath
  rw [List.all_eq_true]
  intro b hb
  obtain ⟨i, hi⟩ := List.mem_iff_getElem?.1 hb
  have hlt : i < s.size := by
    have := (List.getElem?_eq_some_iff.1 hi).1
    rwa [len_data] at this
  rw [byte_at s i hlt] at hi
  have := h i hlt
  rw [Option.some.inj hi] at this
  simp; omega
theorem isPath_step {s : ByteArray} {k : Nat} (h : ∀ i (hi : i < s.size), i < k → (s[i].toNat : Int) ≤ 15) (hk : k < s.size) (e : (s[k].toNat : Int) ≤ 15) :
    ∀ i (hi : i < s.size), i < k + 1 → (s[i].toNat : Int) ≤ 15 := by
  intro i hi hlt
  by_cases hik : i = k
  · subst hik; exact e
  · exact h i hi (by omega)

/-- what the two functions hand back -/
def readV (l : List UInt8) : Value := .tuple #[.string ⟨(read l).1.toArray⟩, .bool (read l).2.1, .int .i64 (read l).2.2]
def formV (l : List UInt8) (leaf : Bool) : Value := .tuple #[.string ⟨(form l leaf).1.toArray⟩, .int .i64 (form l leaf).2]

theorem readV_of {l : List UInt8} {p : List UInt8} {q : Bool} {e : Int} (h : read l = (p, q, e)) : readV l = .tuple #[.string ⟨p.toArray⟩, .bool q, .int .i64 e] := by unfold readV; rw [h]
theorem formV_of {l : List UInt8} {leaf : Bool} {p : List UInt8} {e : Int} (h : form l leaf = (p, e)) : formV l leaf = .tuple #[.string ⟨p.toArray⟩, .int .i64 e] := by unfold formV; rw [h]

theorem read_nil {l : List UInt8} (h : halves l = []) : read l = ([], false, 50) := by unfold read; rw [h]
theorem read_of {l : List UInt8} {L : ByteArray} (hL : L.data.toList = halves l) (h2 : 2 ≤ L.size) :
    read l = if L[0].toNat > 3 ∨ (L[0].toNat % 2 = 0 ∧ L[1].toNat ≠ 0) then ([], false, 50) else if L[0].toNat % 2 = 0 then (L.data.toList.drop 2, decide (L[0].toNat = 2), 0) else (L.data.toList.drop 1, decide (L[0].toNat = 3), 0) := by
  have b0 := byte_at L 0 (by omega)
  have b1 := byte_at L 1 (by omega)
  unfold read
  rw [← hL]
  match hl : L.data.toList with
  | [] => rw [hl] at b0; simp at b0
  | [a] => rw [hl] at b1; simp at b1
  | a :: b :: r =>
    rw [hl] at b0 b1
    simp at b0 b1
    subst b0; subst b1
    have e : ∀ b : UInt8, (b ≠ 0) = (b.toNat ≠ 0) := fun b => by
      have : b = 0 ↔ b.toNat = 0 := by rw [← UInt8.toNat_inj]; rfl
      rw [ne_eq, ne_eq, this]
    simp only [e]
    rfl
theorem ext_drop (L : ByteArray) (k : Nat) : L.extract k L.size = ⟨(L.data.toList.drop k).toArray⟩ := by
  apply ByteArray.ext
  apply Array.toList_inj.1
  simp [Array.toList_extract, List.extract_eq_take_drop]
  rw [List.take_of_length_le (by simp)]
theorem pairUp_step {L : List UInt8} {m : Nat} (hm : m % 2 = 0) (h : m + 1 < L.length) : pairUp (L.take (m + 2)) = pairUp (L.take m) ++ [joinN L[m] L[m + 1]] := by
  induction L using pairUp.induct generalizing m with
  | case1 a b r ih =>
    cases m with
    | zero => simp [pairUp]
    | succ m =>
      cases m with
      | zero => omega
      | succ m =>
        have := @ih m (by omega) (by simpa using h)
        simpa [pairUp] using this
  | case2 L hL =>
    match L, hL with
    | [], _ => simp at h
    | [a], _ => simp at h
    | a :: b :: r, hL => exact (hL a b r rfl).elim

/-- the half bytes, as a set of letters -/
def nibSet : List UInt8 := [0, 1, 2, 3, 4, 5, 6, 7, 8, 9, 10, 11, 12, 13, 14, 15]
theorem nibSet_mem (b : UInt8) : nibSet.contains b = decide (b.toNat ≤ 15) := by
  rw [Bool.eq_iff_iff]
  simp only [nibSet, List.contains_cons, List.contains_nil, Bool.or_false, Bool.or_eq_true, beq_iff_eq, decide_eq_true_eq, ← UInt8.toNat_inj]
  have h : ∀ n : Nat, n < 16 → (UInt8.ofNat n).toNat = n := fun n hn => by simp; omega
  constructor
  · rintro (e | e | e | e | e | e | e | e | e | e | e | e | e | e | e | e) <;> rw [e] <;> decide
  · intro hb
    simp
    omega
theorem dropWhile_nil {l : List UInt8} {p : UInt8 → Bool} : l.dropWhile p = [] ↔ l.all p = true := by
  induction l with
  | nil => simp
  | cons a l ih =>
    simp only [List.dropWhile_cons, List.all_cons]
    cases p a <;> simp [ih]
theorem dropWhile_sub {l : List UInt8} {p : UInt8 → Bool} {b : UInt8} (h : b ∈ l) (hb : p b = false) : b ∈ l.dropWhile p := by
  induction l with
  | nil => cases h
  | cons a l ih =>
    simp only [List.dropWhile_cons]
    cases hp : p a with
    | false => exact h
    | true =>
      simp only [if_true]
      rcases List.mem_cons.1 h with rfl | h
      · rw [hp] at hb; cases hb
      · exact ih h
theorem trim_path {l : List UInt8} : (Lib.trimS l nibSet = []) ↔ isPath l = true := by
  have e : (fun b => nibSet.contains b) = fun b : UInt8 => decide (b.toNat ≤ 15) := funext nibSet_mem
  unfold Lib.trimS Lib.trimLeftS Lib.trimRightS isPath
  rw [e, dropWhile_nil]
  constructor
  · intro h
    rw [List.all_eq_true] at h ⊢
    intro b hb
    cases hp : decide (b.toNat ≤ 15) with
    | true => rfl
    | false =>
      exact absurd (h b (List.mem_reverse.2 (dropWhile_sub (p := fun b : UInt8 => decide (b.toNat ≤ 15)) (List.mem_reverse.2 hb) hp))) (by simp [hp])
  · intro h
    have : l.reverse.dropWhile (fun b : UInt8 => decide (b.toNat ≤ 15)) = [] := dropWhile_nil.2 (by rw [List.all_reverse]; exact h)
    rw [this]; rfl
/-- bytes 0 behind what has been made: one is written -/
theorem set_zeros (l : List UInt8) (k n : Nat) (hk : l.length = k) (x : UInt8) : (l ++ List.replicate (n + 1) 0).set k x = (l ++ [x]) ++ List.replicate n 0 := by
  subst hk
  simp [List.replicate_succ]
theorem pairUp_length (L : List UInt8) : (pairUp L).length = L.length / 2 := by
  induction L using pairUp.induct with
  | case1 a b r ih => simp [pairUp, ih]; omega
  | case2 l hl =>
    match l, hl with
    | [], _ => simp [pairUp]
    | [a], _ => simp [pairUp]
    | a :: b :: r, hl => exact (hl a b r rfl).elim
end Go.Proofs.YtjccllfgendpdaaDoor
