/- What the walks take: NibsE. -/
import Derived.Test.YthicdhnjincflaaGreatDoorS20
import Derived.Test.YthicdhnjincflaaGreatDoorS22
import Derived.Outline
import Derived.CallsIn
import Derived.Scope
import Derived.TacticsInMore
namespace Go.Proofs.YthicdhnjincflaaGreatDoor
open Go.RowKit Go.Shelf
attribute [local go_sem] Oper.semAt_some
/-- what has been read of a form's half bytes -/
def mk (pre : List UInt8) : UInt8 := pre.headD 0
/-- the variables of nibs.Read, each in a block of its own -/
def Bx (w : World) (s : ByteArray) (bad : Bool) (mark : UInt8) (v : Value) (i : Nat) (W : World) : Prop :=
  Boxed W w.heap.size 60 v ∧ Boxed W (w.heap.size + 1) 5 (.int .u8 mark.toNat) ∧ Boxed W (w.heap.size + 1 + 1) 4 (.bool bad) ∧
    Boxed W (w.heap.size + 1 + 1 + 1) 3 (.int .i64 i) ∧ Boxed W (w.heap.size + 1 + 1 + 1 + 1) 9 (.string s) ∧ Below w.heap.size w W
def Rd (w : World) (s : ByteArray) (bad : Bool) (mark : UInt8) (out : List UInt8) (i : Nat) (W : World) : Prop :=
  ∃ v, Bx w s bad mark v i W ∧ OwnB 5 (w.heap.size + 5) W v out
theorem Bx.grown {w W W' : World} {s : ByteArray} {bad : Bool} {m : UInt8} {v : Value} {i : Nat} {row : Option Nat} (h : Bx w s bad m v i W) (hg : W.grownBy W' row) (hr : ∀ k, row = some k → w.heap.size + 5 ≤ k) : Bx w s bad m v i W' := by
  obtain ⟨h0, h1, h2, h3, h4, h5⟩ := h
  exact ⟨h0.kept hg (fun e => by have := hr _ e.symm; omega), h1.kept hg (fun e => by have := hr _ e.symm; omega), h2.kept hg (fun e => by have := hr _ e.symm; omega), h3.kept hg (fun e => by have := hr _ e.symm; omega), h4.kept hg (fun e => by have := hr _ e.symm; omega),
    h5.grown hg h5.size (fun k e => by have := hr k e; omega)⟩
theorem OwnB.not_row {e : TypeId} {base : Nat} {W : World} {v : Value} {l : List UInt8} (h : OwnB e base W v l) {row : Option Nat} (hr : ∀ r, row = some r → ∃ o : Obj, W.heap[r]? = some o ∧ o.isCells = false) : v.ownBlock = none ∨ v.ownBlock ≠ row := by
  cases hv : v.ownBlock with
  | none => exact .inl rfl
  | some g =>
    refine .inr (fun e => ?_)
    obtain ⟨o, ho, hc⟩ := hr g e.symm
    obtain ⟨_, ⟨rfl, _⟩ | ⟨g', cap, cur, rfl, _, hg, _⟩⟩ := h
    · cases hv
    · cases hv; rw [hg] at ho; cases ho; cases hc
theorem Boxed.not_row' {W : World} {B : Nat} {t : TypeId} {v : Value} (h : Boxed W B t v) {row : Option Nat} (hr : ∀ r, row = some r → ∃ o : Obj, W.heap[r]? = some o ∧ o.isCells = false) : some B ≠ row := by
  intro e
  obtain ⟨o, ho, hc⟩ := hr B e.symm
  rw [show W.heap[B]? = _ from h] at ho; cases ho; cases hc
theorem Rd.own {β : Type} (B : Nat) (w : World) (hB : w.heap.size ≤ B) (s : ByteArray) (bad : β → Bool) (mark : β → UInt8) (out : β → List UInt8) (i : β → Nat) : OwnFrom B (fun b W => Rd w s (bad b) (mark b) (out b) (i b) W) := by
  rintro b W W' row ⟨v, ⟨h0, h1, h2, h3, h4, h5⟩, ho⟩ hg hr
  have hr' : ∀ r, row = some r → ∃ o : Obj, W.heap[r]? = some o ∧ o.isCells = false := fun r e => (hr r e).2
  exact ⟨v, ⟨h0.kept hg (Boxed.not_row' h0 hr'), h1.kept hg (Boxed.not_row' h1 hr'), h2.kept hg (Boxed.not_row' h2 hr'), h3.kept hg (Boxed.not_row' h3 hr'), h4.kept hg (Boxed.not_row' h4 hr'),
    h5.grown hg h5.size (fun k e => Nat.le_trans hB (hr k e).1)⟩, ho.kept hg (ho.not_row hr')⟩
/-- one variable is written -/
theorem OwnB.other {e : TypeId} {base : Nat} {W : World} {v : Value} {l : List UInt8} (h : OwnB e base W v l) {b : Nat} (hb : b < base) (u : Value) : OwnB e base (W.setCell ⟨b, 0, none⟩ u) v l :=
  h.kept (grownBy_setCell' W b u) (by
    cases hv : v.ownBlock with
    | none => exact .inl rfl
    | some g => exact .inr (fun e => by cases e; have := (h.lt b hv).1; omega))
/-- the row is written anew -/
theorem Rd.out {w W : World} {s : ByteArray} {bad : Bool} {m : UInt8} {v v' : Value} {out : List UInt8} {i : Nat} (h : Bx w s bad m v i W) (ho : OwnB 5 (w.heap.size + 5) W v' out) : Rd w s bad m out i (W.setCell ⟨w.heap.size, 0, none⟩ v') := by
  obtain ⟨h0, h1, h2, h3, h4, h5⟩ := h
  exact ⟨v', ⟨h0.set _, h1.other (by omega) _, h2.other (by omega) _, h3.other (by omega) _, h4.other (by omega) _, h5.setCell (p := ⟨_, 0, none⟩) (Nat.le_refl _) _⟩, ho.other (by omega) _⟩
end Go.Proofs.YthicdhnjincflaaGreatDoor
