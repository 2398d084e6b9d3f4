/- What the walks take: PonA. -/
import Derived.Test.YthicdhnjincflaaGreatDoorS25
import Derived.Test.YthicdhnjincflaaGreatDoorS33
import Derived.Lib.MinMax
namespace Go.Proofs.YthicdhnjincflaaGreatDoor
open Go.RowKit Go.Shelf Go.Lib
attribute [local go_sem] Oper.semAt_some
theorem Strs.take {w : World} {p : Option Addr} {n c m : Nat} {xs : List ByteArray} (h : Strs w (.slice p n c) xs) (hm : m ≤ n) : Strs w (.slice p m c) (xs.take m) := by
  obtain ⟨p', c', hv, hc, h⟩ := h
  cases hv
  refine ⟨_, _, by rw [List.length_take, Nat.min_eq_left hm], by rw [List.length_take]; omega, ?_⟩
  rcases h with h | ⟨bk, o, h1, h2, h3⟩
  · left; rw [h, List.take_nil]
  · refine .inr ⟨bk, o, h1, h2, fun j x hx => ?_⟩
    rw [List.getElem?_take] at hx
    split at hx
    · exact h3 j x hx
    · cases hx
end Go.Proofs.YthicdhnjincflaaGreatDoor
