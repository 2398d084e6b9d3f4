/- What the walks take: PonA. -/
import Derived.Test.YthicdhnjincflaaGreatDoorU0
import Derived.Test.YthicdhnjincflaaGreatDoorU22
import Derived.Test.YthicdhnjincflaaGreatDoorU26
import Derived.Test.YthicdhnjincflaaGreatDoorU34
import Derived.Test.YthicdhnjincflaaGreatDoorU35
import Derived.Lib.MinMax
namespace Go.Proofs.YthicdhnjincflaaGreatDoor
open Go.RowKit Go.Shelf Go.Lib
attribute [local go_sem] Oper.semAt_some
theorem Strs.take {w : World} {p : Option Addr} {n c m : Nat} {xs : List ByteArray} (h : Strs w (.slice p n c) xs) (hm : m ≤ n) : Strs w (.slice p m c) (xs.take m) := by
  obtain ⟨p', c', hv, hc, h⟩ := h
  cases hv
  refine ⟨_, _, by rw [List.length_take, Nat.min_eq_left hm], by rw [List.length_take]; omega, ?_⟩
  rcases h with h | ⟨bk, o, h1, h2, h3⟩
  · left; rw [h, List.take_nil]
  · refine .inr ⟨bk, o, h1, h2, fun j x hx => ?_⟩
    rw [List.getElem?_take] at hx
    split at hx
    · exact h3 j x hx
    · cases hx
theorem bytes_list (s : ByteArray) : ∃ l : List UInt8, s = ⟨l.toArray⟩ ∧ l.length = s.size := ⟨s.data.toList, by apply ByteArray.ext; simp, rfl⟩
end Go.Proofs.YthicdhnjincflaaGreatDoor
