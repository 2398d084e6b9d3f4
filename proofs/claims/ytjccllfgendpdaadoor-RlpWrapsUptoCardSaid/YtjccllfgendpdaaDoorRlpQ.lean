/- Plain items: how many there are in one, and what the recursive functions give of a list. -/
import Derived.Test.YtjccllfgendpdaaDoorRlpP
namespace Go.Proofs.YtjccllfgendpdaaDoor
open Go.RowKit

mutual
def Item.size : Item → Nat
  | .mk _ _ l => sizeAll l + 1
def sizeAll : List Item → Nat
  | [] => 0
  | x :: r => x.size + sizeAll r
end
theorem Item.size_eq (x : Item) : x.size = sizeAll x.list + 1 := by cases x; rfl
theorem Item.size_pos (x : Item) : 0 < x.size := by rw [Item.size_eq]; omega
theorem sizeAll_length (l : List Item) : l.length ≤ sizeAll l := by
  induction l with
  | nil => simp [sizeAll]
  | cons x r ih => have := x.size_pos; simp [sizeAll]; omega
theorem size_mem {l : List Item} {i : Nat} {x : Item} (h : l[i]? = some x) : x.size ≤ sizeAll l := by
  induction l generalizing i with
  | nil => simp at h
  | cons y r ih =>
    cases i with
    | zero => simp at h; subst h; simp [sizeAll]
    | succ i => have := ih (i := i) (by simpa using h); simp [sizeAll]; omega
theorem size_child {x y : Item} {i : Nat} (h : x.list[i]? = some y) : y.size < x.size := by
  have := size_mem h
  rw [Item.size_eq x]; omega
theorem length_lt_size (x : Item) : x.list.length < x.size := by
  have := sizeAll_length x.list
  rw [Item.size_eq]; omega
theorem sizeAll_take_succ {l : List Item} {k : Nat} {x : Item} (h : l[k]? = some x) : sizeAll (l.take (k + 1)) = sizeAll (l.take k) + x.size := by
  induction l generalizing k with
  | nil => simp at h
  | cons y r ih =>
    cases k with
    | zero => simp at h; subst h; simp [sizeAll]
    | succ k => have := ih (k := k) (by simpa using h); simp [sizeAll, this]; omega
theorem sizeAll_take_le (l : List Item) (k : Nat) : sizeAll (l.take k) ≤ sizeAll l := by
  induction l generalizing k with
  | nil => simp [sizeAll]
  | cons y r ih =>
    cases k with
    | zero => simp [sizeAll]
    | succ k => have := ih k; simp [sizeAll]; omega

theorem deepAny_any (l : List Item) (m : Nat) : deepAny l m = l.any fun x => deep x m := by
  induction l with
  | nil => rfl
  | cons x r ih => rw [deepAny, ih]; rfl
theorem wrongAny_any (l : List Item) : wrongAny l = l.any wrong := by
  induction l with
  | nil => rfl
  | cons x r ih => rw [wrongAny, ih]; rfl
theorem deep_eq (x : Item) (m : Nat) : deep x m = if m = 0 then true else x.list.any fun y => deep y (m - 1) := by
  cases x with
  | mk b t l =>
    rw [deep, deepAny_any]; rfl
theorem wrong_eq (x : Item) : wrong x = if x.isList then (!x.text.isEmpty || x.list.any wrong) else !x.list.isEmpty := by
  cases x with
  | mk b t l => rw [wrong, wrongAny_any]; rfl
theorem sameAll_length {l r : List Item} (h : sameAll l r = true) : l.length = r.length := by
  induction l generalizing r with
  | nil => cases r with
    | nil => rfl
    | cons y r => simp [sameAll] at h
  | cons x l ih =>
    cases r with
    | nil => simp [sameAll] at h
    | cons y r =>
      simp only [sameAll, Bool.and_eq_true] at h
      simp [ih h.2]
theorem sameAll_at (l r : List Item) (hlen : l.length = r.length) : sameAll l r = true ↔ ∀ (i : Nat) (x y : Item), l[i]? = some x → r[i]? = some y → same x y = true := by
  induction l generalizing r with
  | nil => cases r with
    | nil => simp [sameAll]
    | cons y r => simp at hlen
  | cons a l ih =>
    cases r with
    | nil => simp at hlen
    | cons b r =>
      simp only [sameAll, Bool.and_eq_true]
      rw [ih r (by simpa using hlen)]
      constructor
      · rintro ⟨h1, h2⟩ i x y hx hy
        cases i with
        | zero => simp at hx hy; subst hx; subst hy; exact h1
        | succ i => exact h2 i x y (by simpa using hx) (by simpa using hy)
      · intro h
        exact ⟨h 0 a b rfl rfl, fun i x y hx hy => h (i + 1) x y (by simpa using hx) (by simpa using hy)⟩
theorem same_eq (x y : Item) : same x y = (x.isList == y.isList && x.text == y.text && sameAll x.list y.list) := by
  cases x; rfl
mutual
theorem same_sound : ∀ (x y : Item), same x y = true → x = y
  | .mk b t l, .mk b' t' l', h => by
    simp only [same, Bool.and_eq_true, beq_iff_eq, Item.isList, Item.text, Item.list] at h
    obtain ⟨⟨rfl, rfl⟩, h3⟩ := h
    rw [sameAll_sound l l' h3]
theorem sameAll_sound : ∀ (l r : List Item), sameAll l r = true → l = r
  | [], [], _ => rfl
  | [], _ :: _, h => by simp [sameAll] at h
  | _ :: _, [], h => by simp [sameAll] at h
  | x :: l, y :: r, h => by
    simp only [sameAll, Bool.and_eq_true] at h
    rw [same_sound x y h.1, sameAll_sound l r h.2]
end
mutual
theorem same_refl : ∀ (x : Item), same x x = true
  | .mk b t l => by
    simp only [same, Bool.and_eq_true, beq_iff_eq, Item.isList, Item.text, Item.list]
    exact ⟨⟨trivial, trivial⟩, sameAll_refl l⟩
theorem sameAll_refl : ∀ (l : List Item), sameAll l l = true
  | [] => rfl
  | x :: l => by
    simp only [sameAll, Bool.and_eq_true]
    exact ⟨same_refl x, sameAll_refl l⟩
end
theorem same_iff (x y : Item) : same x y = true ↔ x = y := ⟨same_sound x y, fun h => h ▸ same_refl x⟩
/-- how many more might be counted; below 0: there are more -/
def cnt (x : Item) (left : Nat) : Int := if x.size ≤ left then (left : Int) - x.size else -1
end Go.Proofs.YtjccllfgendpdaaDoor
