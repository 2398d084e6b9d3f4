/- EvmStops holds for every input whose values and letters together are at most 1048576: the closed facts of its row. -/
import Derived.Test.YtlelgbmbmajfmaaGreatDoorCards
import Derived.Test.YtlelgbmbmajfmaaGreatDoorTie
import Derived.Test.YtlelgbmbmajfmaaGreatDoorS1
namespace Go.Proofs.YtlelgbmbmajfmaaGreatDoor.lawEvmStops
open Go.ChangeShapes Go.WideShapes Go.ChangeAt Go.RowKit
open Go.ChangeMaps (open_string shut_string)

set_option maxHeartbeats 100000000 in
theorem closed : joinedFacts Tryz.pinned.checked.prog 8 Tryz.f8 (Rows.OpenSpec.upto Rows.evmStopsSpec).bare Rows.evmStopsUptoRow = true := by
  unfold joinedFacts
  repeat' (with_reducible refine Bool.and_eq_true_iff.2 ⟨?_, ?_⟩)
  all_goals (as_aux_lemma => kernel_rfl)
end Go.Proofs.YtlelgbmbmajfmaaGreatDoor.lawEvmStops
