/- A row of items that the call owns (append onto it), and what it reads as. -/
import Derived.Test.YthicdhnjincflaaDoorMeaB
namespace Go.Proofs.YthicdhnjincflaaDoor
open Go.RowKit Go.Shelf Go.Lib

/-- the cells of items, each with its list's value -/
def itemCells (l : List (Item × Value)) : List Value := l.flatMap fun q => [.bool q.1.isList, .string ⟨q.1.text.toArray⟩, q.2]
theorem itemCells_length (l : List (Item × Value)) : (itemCells l).length = l.length * 3 := by
  induction l with
  | nil => rfl
  | cons q r ih =>
    unfold itemCells at ih ⊢
    rw [List.flatMap_cons, List.length_append, ih]
    simp; omega
theorem itemCells_append (l r : List (Item × Value)) : itemCells (l ++ r) = itemCells l ++ itemCells r := by simp [itemCells]
theorem itemCells_at (l : List (Item × Value)) (i j : Nat) (q : Item × Value) (h : l[i]? = some q) (hj : j < 3) : (itemCells l)[i * 3 + j]? = [Value.bool q.1.isList, .string ⟨q.1.text.toArray⟩, q.2][j]? := by
  induction l generalizing i with
  | nil => simp at h
  | cons p r ih =>
    have e : itemCells (p :: r) = [Value.bool p.1.isList, .string ⟨p.1.text.toArray⟩, p.2] ++ itemCells r := rfl
    rw [e]
    cases i with
    | zero =>
      simp at h; subst h
      rw [List.getElem?_append_left (by simp; omega)]
      simp
    | succ i =>
      rw [List.getElem?_append_right (by simp; omega)]
      have := ih i (by simpa using h)
      rw [← this]
      congr 1
      simp; omega
/-- a row of items of the call's own, from block base on -/
def OwnI (base : Nat) (w : World) (v : Value) (l : List (Item × Value)) : Prop := w.ownsRow base 58 3 v l.length (itemCells l)
theorem OwnI.nil (base : Nat) (w : World) : OwnI base w (.slice none 0 0) [] := World.ownsRow_nil _ _ _ _
theorem OwnI.reads {base : Nat} {w : World} {v : Value} {l : List (Item × Value)} (h : OwnI base w v l) (hr : ∀ (i : Nat) (q : Item × Value), l[i]? = some q → Reads w w.heap.size q.2 q.1.list) : Reads w w.heap.size v (l.map Prod.fst) := by
  have h' := h
  obtain ⟨_, ⟨rfl, hn⟩ | ⟨g, cap, cur, rfl, hb, hg, hcap, _⟩⟩ := h
  · obtain rfl : l = [] := List.length_eq_zero_iff.1 hn
    exact Reads.nil _ _
  · have hm : (l.map Prod.fst).length = l.length := by simp
    rw [← hm]
    refine Reads.mk (Array.getElem?_eq_some_iff.1 hg).1 (fun i x hx => ?_) (by rw [hm]; exact hcap)
    rw [List.getElem?_map] at hx
    cases hq : l[i]? with
    | none => rw [hq] at hx; cases hx
    | some q =>
      rw [hq] at hx
      cases hx
      have hi := (List.getElem?_eq_some_iff.1 hq).1
      have hc := fun j (hj : j < 3) => World.ownsRow.cellAt h' (i * 3 + j) (by omega)
      refine ⟨?_, ?_, q.2, ?_, hr i q hq⟩
      · have := hc 0 (by omega); rw [itemCells_at l i 0 q hq (by omega)] at this; simpa using this
      · have := hc 1 (by omega); rw [itemCells_at l i 1 q hq (by omega)] at this; simpa using this
      · have := hc 2 (by omega); rw [itemCells_at l i 2 q hq (by omega)] at this; simpa using this
end Go.Proofs.YthicdhnjincflaaDoor
