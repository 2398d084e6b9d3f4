/- What the walks take: Ew6. -/
import Derived.Test.YtlelgbmbmajfmaaGreatDoorS3
import Derived.Test.YtlelgbmbmajfmaaGreatDoorChecked
import Derived.Lib.FrozenHead2
import Derived.Lib.OthersKept
import Derived.Shelf.Strings.BuilderK
import Derived.WalkSpells
namespace Go.Proofs.YtlelgbmbmajfmaaGreatDoor
open Go.RowKit
def IsBuf (B b : Nat) (l : List UInt8) (w : World) : Prop := Lib.IsBuilderF 127 5 B b (Lib.byteCells l) w
end Go.Proofs.YtlelgbmbmajfmaaGreatDoor
/- Contract of strings.Builder.WriteString at this translation, over a builder that the call made itself. -/
namespace Go.Proofs.YtlelgbmbmajfmaaGreatDoor
open Go.RowKit
end Go.Proofs.YtlelgbmbmajfmaaGreatDoor
/- Contract of Builder.WriteByte. -/
namespace Go.Proofs.YtlelgbmbmajfmaaGreatDoor
open Go.RowKit
end Go.Proofs.YtlelgbmbmajfmaaGreatDoor
