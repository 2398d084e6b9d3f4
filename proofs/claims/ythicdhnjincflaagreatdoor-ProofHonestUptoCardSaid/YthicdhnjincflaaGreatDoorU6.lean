/- What the walks take: ItemM. -/
import Derived.Test.YthicdhnjincflaaGreatDoorU0
import Derived.Test.YthicdhnjincflaaGreatDoorU3
import Derived.Deep.Slices
namespace Go.Proofs.YthicdhnjincflaaGreatDoor
open Go.RowKit
def Its (w : World) (A : Nat → Prop) : Nat → Value → List Item → Prop
  | 0, _, _ => False
  | k + 1, v, xs => ∃ p cap, v = .slice p xs.length cap ∧ xs.length ≤ cap ∧ (xs = [] ∨ ∃ g o, p = some ⟨g, o, Option.none⟩ ∧ A g ∧ ∀ i (x : Item), xs[i]? = some x →
      w.cell? ⟨g, o + i * 3, Option.none⟩ = some (.bool x.isList) ∧ w.cell? ⟨g, o + i * 3 + 1, Option.none⟩ = some (.string ⟨x.text.toArray⟩) ∧ ∃ v', w.cell? ⟨g, o + i * 3 + 2, Option.none⟩ = some v' ∧ Its w A k v' x.list)
theorem Its.mono {w : World} {A : Nat → Prop} {k k' : Nat} {v : Value} {xs : List Item} (h : Its w A k v xs) (hk : k ≤ k') : Its w A k' v xs := by
  induction k generalizing k' v xs with
  | zero => exact h.elim
  | succ k ih =>
    cases k' with
    | zero => omega
    | succ k' =>
      obtain ⟨p, cap, hv, hl, h⟩ := h
      refine ⟨p, cap, hv, hl, ?_⟩
      rcases h with h | ⟨g, o, hp, hg, h⟩
      · exact .inl h
      · refine .inr ⟨g, o, hp, hg, fun i x hx => ?_⟩
        obtain ⟨h1, h2, v', h3, h4⟩ := h i x hx
        exact ⟨h1, h2, v', h3, ih h4 (by omega)⟩
theorem Its.kept {w w' : World} {A A' : Nat → Prop} {k : Nat} {v : Value} {xs : List Item} (h : Its w A k v xs) (hc : ∀ (g : Nat) (u : Value) (o : Nat), A g → w.cell? ⟨g, o, Option.none⟩ = some u → w'.cell? ⟨g, o, Option.none⟩ = some u) (hA : ∀ g, A g → A' g) : Its w' A' k v xs := by
  induction k generalizing v xs with
  | zero => exact h.elim
  | succ k ih =>
    obtain ⟨p, cap, hv, hl, h⟩ := h
    refine ⟨p, cap, hv, hl, ?_⟩
    rcases h with h | ⟨g, o, hp, hg, h⟩
    · exact .inl h
    · refine .inr ⟨g, o, hp, hA g hg, fun i x hx => ?_⟩
      obtain ⟨h1, h2, v', h3, h4⟩ := h i x hx
      exact ⟨hc g _ _ hg h1, hc g _ _ hg h2, v', hc g _ _ hg h3, ih h4⟩
def ReadsIn (w : World) (A : Nat → Prop) (v : Value) (xs : List Item) : Prop := ∃ k, Its w A k v xs
theorem ReadsIn.kept {w w' : World} {A A' : Nat → Prop} {v : Value} {xs : List Item} (h : ReadsIn w A v xs) (hc : ∀ (g : Nat) (u : Value) (o : Nat), A g → w.cell? ⟨g, o, Option.none⟩ = some u → w'.cell? ⟨g, o, Option.none⟩ = some u) (hA : ∀ g, A g → A' g) : ReadsIn w' A' v xs := by
  obtain ⟨k, h⟩ := h
  exact ⟨k, h.kept hc hA⟩
theorem ReadsIn.mono {w : World} {A A' : Nat → Prop} {v : Value} {xs : List Item} (h : ReadsIn w A v xs) (hA : ∀ g, A g → A' g) : ReadsIn w A' v xs := h.kept (fun _ _ _ _ hc => hc) hA
theorem ReadsIn.form {w : World} {A : Nat → Prop} {v : Value} {xs : List Item} (h : ReadsIn w A v xs) : ∃ p cap, v = .slice p xs.length cap := by
  obtain ⟨k, h⟩ := h
  cases k with
  | zero => exact h.elim
  | succ k => obtain ⟨p, cap, hv, _⟩ := h; exact ⟨p, cap, hv⟩
theorem ReadsIn.nil (w : World) (A : Nat → Prop) : ReadsIn w A (.slice Option.none 0 0) [] := ⟨1, Option.none, 0, rfl, Nat.le_refl _, .inl rfl⟩
theorem ReadsIn.cap {w : World} {A : Nat → Prop} {p : Option Addr} {n cap : Nat} {xs : List Item} (h : ReadsIn w A (.slice p n cap) xs) : xs.length ≤ cap := by
  obtain ⟨k, h⟩ := h
  cases k with
  | zero => exact h.elim
  | succ k => obtain ⟨p, cap, hv, hl, _⟩ := h; cases hv; exact hl
theorem ReadsIn.len {w : World} {A : Nat → Prop} {p : Option Addr} {n cap : Nat} {xs : List Item} (h : ReadsIn w A (.slice p n cap) xs) : n = xs.length := by
  obtain ⟨p, c, e⟩ := h.form
  cases e; rfl
theorem ReadsIn.at {w : World} {A : Nat → Prop} {p : Option Addr} {n cap : Nat} {xs : List Item} (h : ReadsIn w A (.slice p n cap) xs) (h0 : 0 < n) :
    n = xs.length ∧ ∃ g o, p = some ⟨g, o, Option.none⟩ ∧ A g ∧ ∀ i (x : Item), xs[i]? = some x →
      w.cell? ⟨g, o + i * 3, Option.none⟩ = some (.bool x.isList) ∧ w.cell? ⟨g, o + i * 3 + 1, Option.none⟩ = some (.string ⟨x.text.toArray⟩) ∧ ∃ v', w.cell? ⟨g, o + i * 3 + 2, Option.none⟩ = some v' ∧ ReadsIn w A v' x.list := by
  obtain ⟨k, h⟩ := h
  cases k with
  | zero => exact h.elim
  | succ k =>
    obtain ⟨p', cap', hv, _, h⟩ := h
    cases hv
    refine ⟨rfl, ?_⟩
    rcases h with h | ⟨g, o, hp, hg, h⟩
    · subst h; simp at h0
    · refine ⟨g, o, hp, hg, fun i x hx => ?_⟩
      obtain ⟨h1, h2, v', h3, h4⟩ := h i x hx
      exact ⟨h1, h2, v', h3, k, h4⟩
theorem ReadsIn.mk {w : World} {A : Nat → Prop} {g o cap : Nat} {xs : List Item} (hg : A g)
    (h : ∀ i (x : Item), xs[i]? = some x → w.cell? ⟨g, o + i * 3, Option.none⟩ = some (.bool x.isList) ∧ w.cell? ⟨g, o + i * 3 + 1, Option.none⟩ = some (.string ⟨x.text.toArray⟩) ∧ ∃ v', w.cell? ⟨g, o + i * 3 + 2, Option.none⟩ = some v' ∧ ReadsIn w A v' x.list) (hl : xs.length ≤ cap := by decide) :
    ReadsIn w A (.slice (some ⟨g, o, Option.none⟩) xs.length cap) xs := by
  have hk : ∃ k, ∀ i (x : Item), xs[i]? = some x → ∃ v', w.cell? ⟨g, o + i * 3 + 2, Option.none⟩ = some v' ∧ Its w A k v' x.list := by
    have key : ∀ n, ∃ k, ∀ i (x : Item), i < n → xs[i]? = some x → ∃ v', w.cell? ⟨g, o + i * 3 + 2, Option.none⟩ = some v' ∧ Its w A k v' x.list := by
      intro n
      induction n with
      | zero => exact ⟨0, fun i x hi => by omega⟩
      | succ n ih =>
        obtain ⟨k, hk⟩ := ih
        cases hn : xs[n]? with
        | none => exact ⟨k, fun i x hi hx => by
            by_cases e : i = n
            · subst e; rw [hn] at hx; cases hx
            · exact hk i x (by omega) hx⟩
        | some y =>
          obtain ⟨_, _, v', h3, k', h4⟩ := h n y hn
          refine ⟨max k k', fun i x hi hx => ?_⟩
          by_cases e : i = n
          · subst e; rw [hn] at hx; cases hx
            exact ⟨v', h3, h4.mono (Nat.le_max_right _ _)⟩
          · obtain ⟨v2, q1, q2⟩ := hk i x (by omega) hx
            exact ⟨v2, q1, q2.mono (Nat.le_max_left _ _)⟩
    obtain ⟨k, hk⟩ := key xs.length
    exact ⟨k, fun i x hx => hk i x (by
      have := (List.getElem?_eq_some_iff.1 hx).1
      exact this) hx⟩
  obtain ⟨k, hk⟩ := hk
  refine ⟨k + 1, _, cap, rfl, hl, .inr ⟨g, o, rfl, hg, fun i x hx => ?_⟩⟩
  obtain ⟨h1, h2, _⟩ := h i x hx
  obtain ⟨v', h3, h4⟩ := hk i x hx
  exact ⟨h1, h2, v', h3, h4⟩
def Reads (w : World) (B : Nat) (v : Value) (xs : List Item) : Prop := ReadsIn w (fun g => g < B) v xs
theorem Reads.below {w w' : World} {B B' : Nat} {v : Value} {xs : List Item} (h : Reads w B v xs) (hb : Below B w w') (hB : B ≤ B') : Reads w' B' v xs :=
  ReadsIn.kept h (fun g _ o hg hc => (hb.cell (p := ⟨g, o, Option.none⟩) hg).trans hc) (fun _ hg => Nat.lt_of_lt_of_le hg hB)
theorem Reads.form {w : World} {B : Nat} {v : Value} {xs : List Item} (h : Reads w B v xs) : ∃ p cap, v = .slice p xs.length cap := ReadsIn.form h
theorem Reads.nil (w : World) (B : Nat) : Reads w B (.slice Option.none 0 0) [] := ReadsIn.nil _ _
theorem Reads.at {w : World} {B : Nat} {p : Option Addr} {n cap : Nat} {xs : List Item} (h : Reads w B (.slice p n cap) xs) (h0 : 0 < n) :
    n = xs.length ∧ ∃ g o, p = some ⟨g, o, Option.none⟩ ∧ g < B ∧ ∀ i (x : Item), xs[i]? = some x →
      w.cell? ⟨g, o + i * 3, Option.none⟩ = some (.bool x.isList) ∧ w.cell? ⟨g, o + i * 3 + 1, Option.none⟩ = some (.string ⟨x.text.toArray⟩) ∧ ∃ v', w.cell? ⟨g, o + i * 3 + 2, Option.none⟩ = some v' ∧ Reads w B v' x.list := ReadsIn.at h h0
theorem Reads.mk {w : World} {B g o cap : Nat} {xs : List Item} (hg : g < B)
    (h : ∀ i (x : Item), xs[i]? = some x → w.cell? ⟨g, o + i * 3, Option.none⟩ = some (.bool x.isList) ∧ w.cell? ⟨g, o + i * 3 + 1, Option.none⟩ = some (.string ⟨x.text.toArray⟩) ∧ ∃ v', w.cell? ⟨g, o + i * 3 + 2, Option.none⟩ = some v' ∧ Reads w B v' x.list) (hl : xs.length ≤ cap := by decide) :
    Reads w B (.slice (some ⟨g, o, Option.none⟩) xs.length cap) xs := ReadsIn.mk (A := fun g => g < B) hg h hl
end Go.Proofs.YthicdhnjincflaaGreatDoor
