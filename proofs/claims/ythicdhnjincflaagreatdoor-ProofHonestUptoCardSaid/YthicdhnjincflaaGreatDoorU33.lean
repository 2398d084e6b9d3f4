/- What the walks take: TrwB. -/
import Derived.Test.YthicdhnjincflaaGreatDoorU0
import Derived.Test.YthicdhnjincflaaGreatDoorU22
import Derived.Test.YthicdhnjincflaaGreatDoorU26
import Derived.Test.YthicdhnjincflaaGreatDoorU32
import Derived.Laws.EntriesVeiled
namespace Go.Proofs.YthicdhnjincflaaGreatDoor
open Go.RowKit Go.Shelf Go.Lib
attribute [local go_sem] Oper.semAt_some
def Tells (B bo : Nat) (w : World) (l : List ByteArray) (w' : World) : Prop :=
  Below bo w w' ∧ B ≤ w'.heap.size ∧ (∀ k, k < B → k ≠ bo → w'.heap[k]? = w.heap[k]?) ∧ ∃ p c, HasCells w' bo [.slice p l.length c] 29 ∧ OwnS B w' (.slice p l.length c) l
theorem Tells.trans {B bo : Nat} {w w1 w2 : World} {l1 l2 : List ByteArray} (h1 : Tells B bo w l1 w1) (h2 : Tells B bo w1 l2 w2) : Tells B bo w l2 w2 :=
  ⟨h1.1.trans h2.1, h2.2.1, fun k hk hne => (h2.2.2.1 k hk hne).trans (h1.2.2.1 k hk hne), h2.2.2.2⟩
end Go.Proofs.YthicdhnjincflaaGreatDoor
