/- What the walks take: TrxR. -/
import Derived.Test.YthicdhnjincflaaGreatDoorU0
import Derived.Test.YthicdhnjincflaaGreatDoorU33
import Derived.Test.YthicdhnjincflaaGreatDoorU35
namespace Go.Proofs.YthicdhnjincflaaGreatDoor
open Go.RowKit Go.Shelf Go.Lib
attribute [local go_sem] Oper.semAt_some
theorem prove_right {ps : List PairD} (h : rightP ps = true) (hne : ps ≠ []) (key : List UInt8) : proveR ps key = (wayP keccakL 129 ps 0 (halves key), 0) := by
  unfold proveR
  rw [if_pos h]
  cases ps with
  | nil => exact absurd rfl hne
  | cons q r => rfl
theorem root_right {ps : List PairD} (h : rightP ps = true) : rootR ps = (rootP keccakL ps, 0) := by
  unfold rootR
  rw [if_pos h]
theorem root_wrong {ps : List PairD} (h : rightP ps = false) : rootR ps = ([], 60) := by
  unfold rootR
  rw [h]
  rfl
theorem weightP_mem {l : List PairD} {q : PairD} (h : q ∈ l) : q.1.length + q.2.length ≤ weightP l := by
  induction l with
  | nil => cases h
  | cons x r ih =>
    simp only [weightP]
    rcases List.mem_cons.1 h with rfl | h
    · omega
    · have := ih h
      omega
theorem fewP_small {n : Nat} {l : List PairD} {q : PairD} (h : q ∈ fewP n l) : q.1.length ≤ weightP l ∧ q.2.length ≤ 100 := by
  unfold fewP at h
  obtain ⟨x, hx, rfl⟩ := List.mem_map.1 h
  have := weightP_mem (List.mem_of_mem_take hx)
  exact ⟨by dsimp only; omega, by dsimp only; rw [List.length_take]; omega⟩
theorem fewP_big {n : Nat} {l : List PairD} (h : weightP l ≤ 1048576) : ∀ q ∈ fewP n l, q.1.length ≤ 1099511627776 ∧ q.2.length ≤ 1099511627776 := fun q hq => by
  have := fewP_small hq
  omega
end Go.Proofs.YthicdhnjincflaaGreatDoor
