/- What the walks take: Ew3. -/
import Derived.Test.YtlelgbmbmajfmaaGreatDoorS3
import Derived.Test.YtlelgbmbmajfmaaGreatDoorS5
import Derived.Test.YtlelgbmbmajfmaaGreatDoorChecked
import Derived.WalkSpells
import Derived.WalkLawsBesides
import Derived.Deep.QuietTactic
import Derived.BigQuiet
import Derived.Outline
import Derived.Test.YtlelgbmbmajfmaaGreatDoorShelfR
namespace Go.Proofs.YtlelgbmbmajfmaaGreatDoor
open Go.RowKit
end Go.Proofs.YtlelgbmbmajfmaaGreatDoor
/- Contracts of the program's Number and of Value, the program's and the reference's. -/
namespace Go.Proofs.YtlelgbmbmajfmaaGreatDoor
open Go.RowKit
theorem OwnB.strAs {P : Program} {e t src dst : TypeId} {base : Nat} {w : World} {v : Value} {l : List UInt8} (h : OwnB t base w v l)
    (hs : P.underlying src = some (.slice e)) (he : P.underlying e = some (.int .u8)) (hd : P.underlying dst = some .string) :
    (convert src dst v).run P w = .ok (.string ⟨l.toArray⟩) w := by
  have hc := fun g (hg : v.ownBlock = some g) => World.ownsRow.cells h hg
  obtain ⟨_, ⟨rfl, h0⟩ | ⟨g, cap, cur, rfl, _⟩⟩ := h
  · obtain rfl : l = [] := List.length_eq_zero_iff.1 h0
    rw [run_convert_bytes_string w src dst e none 0 0 hs he hd]
    rfl
  · exact run_convert_bytes_back w src dst e _ cap l hs he hd (fun j hj => hc g rfl j _ (by simp [Lib.byteCells, hj]))
end Go.Proofs.YtlelgbmbmajfmaaGreatDoor
/- Contracts of Value, the program's and the reference's. -/
namespace Go.Proofs.YtlelgbmbmajfmaaGreatDoor
open Go.RowKit
end Go.Proofs.YtlelgbmbmajfmaaGreatDoor
