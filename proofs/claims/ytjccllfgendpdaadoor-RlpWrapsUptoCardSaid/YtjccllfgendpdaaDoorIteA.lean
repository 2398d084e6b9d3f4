/- Contracts of rlp.items and of the iterator that it hands back: the plain part, and the walk of the iterator. -/
import Derived.Test.YtjccllfgendpdaaDoorItmRow
import Derived.Test.YtjccllfgendpdaaDoorRange
import Derived.Test.YtjccllfgendpdaaDoorScope
import Derived.OwnWalkIn
import Derived.TacticsInMore
import Derived.LoopNIn
import Derived.LoopIn
namespace Go.Proofs.YtjccllfgendpdaaDoor
open Go.RowKit Go.Shelf Go.Lib

/-- what is handed to a round: an item, its list's value, and whether there is one -/
abbrev El := (Item × Value) × Bool
def itemsOf (xs : List El) : List Item := xs.map fun q => q.1.1
theorem itemsOf_snoc (xs : List El) (q : El) : itemsOf (xs ++ [q]) = itemsOf xs ++ [q.1.1] := by simp [itemsOf]
/-- the items that came, and the text that is still to be read -/
def Rest (s : List UInt8) (pre : List El) (rest : List UInt8) : Prop :=
  (∀ q, q ∈ pre → q.2 = true) ∧ all s = (all rest).map (itemsOf pre ++ ·) ∧ pre.length + rest.length ≤ s.length
theorem Rest.start (s : List UInt8) : Rest s [] s := ⟨by simp, by simp [itemsOf], by simp⟩
theorem first_short {s rest : List UInt8} {x : Item} (h : first s = some (x, rest)) : rest.length < s.length := by
  unfold first at h
  split at h
  · cases h
  · rename_i inn b r hc
    have := (cut_short hc).1
    split at h
    · cases ha : all inn with
      | none => rw [ha] at h; cases h
      | some l => rw [ha] at h; cases h; exact this
    · cases h; exact this
theorem Rest.step {s rest rest' : List UInt8} {pre : List El} {x : Item} (h : Rest s pre rest) (hne : rest ≠ []) (hf : first rest = some (x, rest')) (v : Value) : Rest s (pre ++ [((x, v), true)]) rest' := by
  obtain ⟨h1, h2, h3⟩ := h
  have h4 := first_short hf
  refine ⟨fun q hq => ?_, ?_, by simp; omega⟩
  · rcases List.mem_append.1 hq with h | h
    · exact h1 q h
    · simp at h; rw [h]
  · rw [h2, all_step hne, hf, itemsOf_snoc]
    cases hr : all rest' <;> simp [hr]
theorem Rest.bad {s rest : List UInt8} {pre : List El} (h : Rest s pre rest) (hne : rest ≠ []) (hf : first rest = Option.none) : all s = Option.none := by
  rw [h.2.1, all_step hne, hf]; rfl
theorem Rest.done {s : List UInt8} {pre : List El} (h : Rest s pre []) : all s = some (itemsOf pre) := by
  rw [h.2.1, all_nil]; simp
theorem Rest.lt {s rest : List UInt8} {pre : List El} (h : Rest s pre rest) (hne : rest ≠ []) : pre.length < s.length := by
  have h3 := h.2.2
  have : 0 < rest.length := List.length_pos_iff.2 hne
  omega
theorem first_none {s : List UInt8} (h : cut s = Option.none) : first s = Option.none := by unfold first; rw [h]
theorem first_text {s inn rest : List UInt8} (h : cut s = some (inn, false, rest)) : first s = some (Item.mk false inn [], rest) := by unfold first; rw [h]; rfl
theorem first_list {s inn rest : List UInt8} (h : cut s = some (inn, true, rest)) : first s = (all inn).map fun l => (Item.mk true [] l, rest) := by unfold first; rw [h]; rfl

/-- what all gives of a text -/
def AllIs (s : List UInt8) (e : Ending) (w w' : World) : Prop :=
  Below w.heap.size w w' ∧
  ((∃ (xs : List Item) (p : Option Addr) (c : Nat), e = .returned (.tuple #[.slice p xs.length c, .bool true]) ∧ Hid (all s = some xs) ∧ Hid (ReadsIn w' (fun g => w.heap.size ≤ g ∧ g < w'.heap.size) (.slice p xs.length c) xs)) ∨
   (∃ (p : Option Addr) (n c : Nat), e = .returned (.tuple #[.slice p n c, .bool false]) ∧ Hid (all s = Option.none)))

/-- an element as yield is handed it -/
def encEl (x : El) : Array Value := #[.agg #[.bool x.1.1.isList, .string ⟨x.1.1.text.toArray⟩, x.1.2], .bool x.2]
/-- the box that the iterator turns -/
def StepI (Bn : Nat) (A B : World) : Prop := A.grownBy B (some Bn) ∧ ((∃ t, Boxed A Bn 9 (.string t)) → ∃ t, Boxed B Bn 9 (.string t))
/-- what the iterator says of an element -/
def GoodI (N : Nat) (pre : List El) (x : El) (W0 W1 : World) : Prop :=
  pre.length < N ∧ (∃ p n c, x.1.2 = .slice p n c) ∧ (x.2 = true → ReadsIn W1 (fun g => W0.heap.size ≤ g ∧ g < W1.heap.size) x.1.2 x.1.1.list)
def SameBox (B : Nat) (W W' : World) : Prop := W'.heap[B]? = W.heap[B]?
def doneI (s : List UInt8) (xs : List El) : Prop := (∀ q, q ∈ xs → q.2 = true) → all s = some (itemsOf xs)
def stopI (s : List UInt8) (xs : List El) : Prop := (∃ q, q ∈ xs ∧ q.2 = false) → all s = Option.none
/-- how long the text in a box is -/
def boxLen (W : World) (B : Nat) : Nat := match W.cell? ⟨B, 0, none⟩ with
  | some (.string b) => b.size
  | _ => 0
theorem boxLen_of {W : World} {B : Nat} {t : TypeId} {b : ByteArray} (h : Boxed W B t (.string b)) : boxLen W B = b.size := by
  unfold boxLen; rw [h.cell]

theorem StepI.of {Bn : Nat} {wr w1 : World} {t : ByteArray} (hB : Below wr.heap.size wr w1) (hb : Boxed w1 Bn 9 (.string t)) (t' : ByteArray) : StepI Bn wr (w1.setCell ⟨Bn, 0, none⟩ (.string t')) ∧ Boxed (w1.setCell ⟨Bn, 0, none⟩ (.string t')) Bn 9 (.string t') := by
  have h1 : wr.grownBy w1 none := ⟨hB.os, hB.tape, hB.output, hB.size, fun i hi _ => hB.block i hi⟩
  have h2 := grownBy_setCell' w1 Bn (.string t')
  refine ⟨⟨⟨h2.os.trans h1.os, h2.tape.trans h1.tape, h2.output.trans h1.output, Nat.le_trans h1.size h2.size, fun i hi hne => (h2.block i (Nat.lt_of_lt_of_le hi h1.size) hne).trans (h1.block i hi (by simp))⟩, fun _ => ⟨t', hb.set _⟩⟩, hb.set _⟩
theorem StepI.alloc {Bn : Nat} {wr w1 : World} (h : StepI Bn wr w1) {t : ByteArray} (hb : Boxed w1 Bn 9 (.string t)) (o : Obj) : StepI Bn wr (w1.alloc o) := by
  obtain ⟨h1, h2⟩ := h
  have h3 := World.grownBy_alloc w1 o none
  exact ⟨⟨h3.os.trans h1.os, h3.tape.trans h1.tape, h3.output.trans h1.output, Nat.le_trans h1.size h3.size, fun i hi hne => (h3.block i (Nat.lt_of_lt_of_le hi h1.size) (by simp)).trans (h1.block i hi hne)⟩, fun _ => ⟨t, hb.alloc o⟩⟩
theorem items_any (F : Fence) (n : Nat) (hf : F.fn 63) (hro : F.round = none) (s : ByteArray) (w : World) :
    CallsIn F n Tryd.prog 63 #[.string s] w fun e w' => e = .returned (.func (.func 76) #[] #[.pointer (some ⟨w.heap.size, 0, none⟩)]) ∧ w' = w.alloc (.cells #[.string s] 9) := by
  refine callsIn_of_wp Tryd.func63 rfl hf ?_ hro
  simp only [Tryd.ntmps63, List.size_toArray, List.length_cons, List.length_nil, Nat.reduceAdd, Nat.reduceSub, Array.replicate_succ, Array.replicate_zero, List.push_toArray, List.append_toArray, List.nil_append, List.cons_append]
  gi_wp2
  go_ret
  exact ⟨rfl, rfl⟩
end Go.Proofs.YtjccllfgendpdaaDoor
