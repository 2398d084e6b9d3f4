/- What the walks take: Ew12. -/
import Derived.Test.YtlelgbmbmajfmaaGreatDoorS3
import Derived.Test.YtlelgbmbmajfmaaGreatDoorS7
import Derived.Test.YtlelgbmbmajfmaaGreatDoorS11
namespace Go.Proofs.YtlelgbmbmajfmaaGreatDoor
open Go.RowKit Go.Shelf Go.Lib
end Go.Proofs.YtlelgbmbmajfmaaGreatDoor
/- Contract of acct.SlotFrom. -/
namespace Go.Proofs.YtlelgbmbmajfmaaGreatDoor
open Go.RowKit Go.Shelf Go.Lib
theorem Box4.zero {W : World} {b v : Nat} (h : Box4 W b v) :
    Box4 ((((W.setCell ⟨b, 0, none⟩ (.int .u64 0)).setCell ⟨b, 1, none⟩ (.int .u64 0)).setCell ⟨b, 2, none⟩ (.int .u64 0)).setCell ⟨b, 3, none⟩ (.int .u64 0)) b 0 := by
  simpa [limb_zero] using h.set4 0
end Go.Proofs.YtlelgbmbmajfmaaGreatDoor
