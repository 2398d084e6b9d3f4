/- The contracts of Go's library that the texts on paths name: they lie in ShelfR. -/
import Derived.Test.YthicdhnjincflaaGreatDoorShelfR
namespace Go.Proofs
end Go.Proofs
