/- The contracts of Go's library that the texts name: they lie in ShelfR. -/
import Derived.Test.YtlelgbmbmajfmaaGreatDoorShelfR
namespace Go.Proofs
end Go.Proofs
