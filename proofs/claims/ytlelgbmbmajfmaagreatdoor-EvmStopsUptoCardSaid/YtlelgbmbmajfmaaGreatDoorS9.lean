/- What the walks take: Ew7. -/
import Derived.Test.YtlelgbmbmajfmaaGreatDoorS3
import Derived.Test.YtlelgbmbmajfmaaGreatDoorS5
import Derived.Test.YtlelgbmbmajfmaaGreatDoorS6
import Derived.Test.YtlelgbmbmajfmaaGreatDoorS8
import Derived.Shelf.Abstract
import Derived.Shelf.SlicesQ.IndexFunc
import Derived.StillTailTactics
import Derived.RangeFuncRecord
import Derived.Deep.RegionHeld3
import Derived.BigQuiet
import Derived.Deep.Slices
namespace Go.Proofs.YtlelgbmbmajfmaaGreatDoor
open Go.RowKit
end Go.Proofs.YtlelgbmbmajfmaaGreatDoor
/- Contracts of slices.IndexFunc, slices.ContainsFunc, slices.EqualFunc over items in memory, at whatever function value. -/
namespace Go.Proofs.YtlelgbmbmajfmaaGreatDoor
open Go.RowKit Go.Shelf Go.Lib
end Go.Proofs.YtlelgbmbmajfmaaGreatDoor
/- Contracts of deep and Deep, wrong and right, over items in memory. -/
namespace Go.Proofs.YtlelgbmbmajfmaaGreatDoor
open Go.RowKit Go.Shelf Go.Lib
theorem laid2 (w : World) (o1 o2 : Obj) : Below w.heap.size w ((w.alloc o1).alloc o2) := ((Below.refl _ _).alloc (Nat.le_refl _) _).alloc (by simp) _
end Go.Proofs.YtlelgbmbmajfmaaGreatDoor
/- Contracts of the reference's Deep, of wrong and right, over items in memory. -/
namespace Go.Proofs.YtlelgbmbmajfmaaGreatDoor
open Go.RowKit Go.Shelf Go.Lib
theorem laid1 (w : World) (o : Obj) : Below w.heap.size w (w.alloc o) := (Below.refl _ _).alloc (Nat.le_refl _) _
end Go.Proofs.YtlelgbmbmajfmaaGreatDoor
/- Contracts of wrong and right, over items in memory. -/
namespace Go.Proofs.YtlelgbmbmajfmaaGreatDoor
open Go.RowKit Go.Shelf Go.Lib
end Go.Proofs.YtlelgbmbmajfmaaGreatDoor
/- Contract of put: an item's bytes, by a builder. -/
namespace Go.Proofs.YtlelgbmbmajfmaaGreatDoor
open Go.RowKit Go.Shelf Go.Lib
theorem IsBuf.below {B b : Nat} {l : List UInt8} {w w' : World} (h : IsBuf B b l w) (hb : Below w.heap.size w w') : IsBuf B b l w' := by
  have key : ∀ {p : Value}, Lib.BuilderAtF 127 5 B b p (Lib.byteCells l) w → Lib.BuilderAtF 127 5 B b p (Lib.byteCells l) w' := by
    rintro p ⟨hB, v, hbk, ⟨hl, hown⟩, hne⟩
    refine ⟨hB, v, ?_, ⟨hl, ?_⟩, hne⟩
    · rw [hb.block b (Array.getElem?_eq_some_iff.1 hbk).1]; exact hbk
    · rcases hown with hown | ⟨g, cap, cur, fz, hv, hg, hh, r⟩
      · exact .inl hown
      · exact .inr ⟨g, cap, cur, fz, hv, hg, by rw [hb.block g (Array.getElem?_eq_some_iff.1 hh).1]; exact hh, r⟩
  rcases h with h | h
  · exact .inl (key h)
  · exact .inr (key h)
theorem IsBuf.new (B : Nat) (w : World) (hB : B ≤ w.heap.size) : IsBuf B w.heap.size [] (w.alloc (.cells #[.pointer none, .slice none 0 0] 127)) :=
  .inl ⟨hB, .slice none 0 0, World.alloc_heap_new w _, World.ownsRowF_nil _ _ _ _, by simp [Value.ownBlock]⟩
theorem IsBuf.laid {B b : Nat} {l : List UInt8} {w : World} (h : IsBuf B b l w) (o : Obj) : IsBuf B b l (w.alloc o) := Lib.IsBuilderF.alloc h o
end Go.Proofs.YtlelgbmbmajfmaaGreatDoor
