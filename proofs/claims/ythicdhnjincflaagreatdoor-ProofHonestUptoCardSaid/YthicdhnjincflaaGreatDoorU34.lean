/- What the walks take: OpnT. -/
import Derived.Test.YthicdhnjincflaaGreatDoorU0
import Derived.Test.YthicdhnjincflaaGreatDoorU14
import Derived.Test.YthicdhnjincflaaGreatDoorRows
import Derived.Deep.Slices
import Derived.ChangeArms
import Derived.DataReads
import Derived.OpenShut
namespace Go.Proofs.YthicdhnjincflaaGreatDoor
open Go.RowKit Go.ChangeShapes Go.WideShapes
theorem bulkAll_appendH {H : Type} (l r : List (DataW H)) : Rows.uptoBulkAll (l ++ r) = Rows.uptoBulkAll l + Rows.uptoBulkAll r := by
  induction l with
  | nil => simp [Rows.uptoBulkAll]
  | cons x l ih => simp only [List.cons_append, Rows.uptoBulkAll, ih]; omega
end Go.Proofs.YthicdhnjincflaaGreatDoor
