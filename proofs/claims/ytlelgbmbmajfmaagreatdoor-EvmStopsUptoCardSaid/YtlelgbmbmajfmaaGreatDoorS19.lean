/- What the walks take: Ew13. -/
import Derived.Test.YtlelgbmbmajfmaaGreatDoorS3
import Derived.Test.YtlelgbmbmajfmaaGreatDoorS7
import Derived.Test.YtlelgbmbmajfmaaGreatDoorRows
import Derived.Deep.Slices
import Derived.ChangeArms
import Derived.DataReads
import Derived.OpenShut
namespace Go.Proofs.YtlelgbmbmajfmaaGreatDoor
open Go.RowKit Go.ChangeShapes Go.WideShapes
def acctV (n b : Nat) (root code : ByteArray) : Value := .agg #[.int .u64 n, .int .u64 (limb b 0), .int .u64 (limb b 1), .int .u64 (limb b 2), .int .u64 (limb b 3), .string root, .string code]
end Go.Proofs.YtlelgbmbmajfmaaGreatDoor
