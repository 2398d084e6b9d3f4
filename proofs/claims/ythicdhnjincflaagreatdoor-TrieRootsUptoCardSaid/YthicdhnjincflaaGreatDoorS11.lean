/- What the walks take: IteB. -/
import Derived.Test.YthicdhnjincflaaGreatDoorS9
import Derived.Test.YthicdhnjincflaaGreatDoorS10
import Derived.OwnWalkIn
import Derived.TacticsInMore
import Derived.LoopNIn
import Derived.LoopIn
import Derived.Outline
import Derived.CallsIn
import Derived.Scope
namespace Go.Proofs.YthicdhnjincflaaGreatDoor
open Go.RowKit Go.Shelf Go.Lib
/-- what is handed to a round: an item, its list's value, and whether there is one -/
abbrev El := (Item × Value) × Bool
def itemsOf (xs : List El) : List Item := xs.map fun q => q.1.1
/-- the items that came, and the text that is still to be read -/
def Rest (s : List UInt8) (pre : List El) (rest : List UInt8) : Prop :=
  (∀ q, q ∈ pre → q.2 = true) ∧ all s = (all rest).map (itemsOf pre ++ ·) ∧ pre.length + rest.length ≤ s.length
theorem Rest.start (s : List UInt8) : Rest s [] s := ⟨by simp, by simp [itemsOf], by simp⟩
theorem Rest.done {s : List UInt8} {pre : List El} (h : Rest s pre []) : all s = some (itemsOf pre) := by
  rw [h.2.1, all_nil]; simp
theorem Rest.lt {s rest : List UInt8} {pre : List El} (h : Rest s pre rest) (hne : rest ≠ []) : pre.length < s.length := by
  have h3 := h.2.2
  have : 0 < rest.length := List.length_pos_iff.2 hne
  omega
/-- the box that the iterator turns -/
def StepI (Bn : Nat) (A B : World) : Prop := A.grownBy B (some Bn) ∧ ((∃ t, Boxed A Bn 9 (.string t)) → ∃ t, Boxed B Bn 9 (.string t))
def SameBox (B : Nat) (W W' : World) : Prop := W'.heap[B]? = W.heap[B]?
theorem StepI.of {Bn : Nat} {wr w1 : World} {t : ByteArray} (hB : Below wr.heap.size wr w1) (hb : Boxed w1 Bn 9 (.string t)) (t' : ByteArray) : StepI Bn wr (w1.setCell ⟨Bn, 0, none⟩ (.string t')) ∧ Boxed (w1.setCell ⟨Bn, 0, none⟩ (.string t')) Bn 9 (.string t') := by
  have h1 : wr.grownBy w1 none := ⟨hB.os, hB.tape, hB.output, hB.size, fun i hi _ => hB.block i hi⟩
  have h2 := grownBy_setCell' w1 Bn (.string t')
  refine ⟨⟨⟨h2.os.trans h1.os, h2.tape.trans h1.tape, h2.output.trans h1.output, Nat.le_trans h1.size h2.size, fun i hi hne => (h2.block i (Nat.lt_of_lt_of_le hi h1.size) hne).trans (h1.block i hi (by simp))⟩, fun _ => ⟨t', hb.set _⟩⟩, hb.set _⟩
theorem StepI.alloc {Bn : Nat} {wr w1 : World} (h : StepI Bn wr w1) {t : ByteArray} (hb : Boxed w1 Bn 9 (.string t)) (o : Obj) : StepI Bn wr (w1.alloc o) := by
  obtain ⟨h1, h2⟩ := h
  have h3 := World.grownBy_alloc w1 o none
  exact ⟨⟨h3.os.trans h1.os, h3.tape.trans h1.tape, h3.output.trans h1.output, Nat.le_trans h1.size h3.size, fun i hi hne => (h3.block i (Nat.lt_of_lt_of_le hi h1.size) (by simp)).trans (h1.block i hi hne)⟩, fun _ => ⟨t, hb.alloc o⟩⟩
end Go.Proofs.YthicdhnjincflaaGreatDoor
/- The walk of the iterator of rlp.items. -/
namespace Go.Proofs.YthicdhnjincflaaGreatDoor
open Go.RowKit Go.Shelf Go.Lib
attribute [local go_sem] Oper.semAt_some
end Go.Proofs.YthicdhnjincflaaGreatDoor
