/- What the walks take: Ew11. -/
import Derived.Test.YtlelgbmbmajfmaaGreatDoorS3
import Derived.Test.YtlelgbmbmajfmaaGreatDoorS9
import Derived.Test.YtlelgbmbmajfmaaGreatDoorS10
import Derived.Maps.AppendAt
import Derived.Deep.AppendLies
import Derived.Outline
import Derived.OwnWalkIn
import Derived.TacticsInMore
import Derived.LoopNIn
import Derived.LoopIn
import Derived.RangeFuncNested
import Derived.RangeFuncBound
import Derived.RangeFuncCalls
import Derived.RangeFuncLeaves
import Derived.CallsIn
import Derived.Scope
namespace Go.Proofs.YtlelgbmbmajfmaaGreatDoor
open Go.RowKit Go.Shelf Go.Lib
end Go.Proofs.YtlelgbmbmajfmaaGreatDoor
/- Contract of rlp.all: the items of bytes. -/
namespace Go.Proofs.YtlelgbmbmajfmaaGreatDoor
open Go.RowKit Go.Shelf Go.Lib
attribute [local go_sem] Oper.semAt_some
end Go.Proofs.YtlelgbmbmajfmaaGreatDoor
namespace Go.Proofs.YtlelgbmbmajfmaaGreatDoor
open Go.RowKit Go.Shelf Go.Lib
theorem cells_at (w : World) (xs : List Value) (t : TypeId) (j : Nat) (u : Value) (h : xs[j]? = some u) : (w.alloc (.cells xs.toArray t)).cell? ⟨w.heap.size, j, none⟩ = some u := by
  rw [World.cell?_alloc_mark]
  simpa using h
end Go.Proofs.YtlelgbmbmajfmaaGreatDoor
namespace Go.Proofs.YtlelgbmbmajfmaaGreatDoor
open Go.RowKit Go.Shelf Go.Lib
def Box3 (W : World) (b : Nat) (v0 v1 v2 : Value) : Prop := W.cell? ⟨b, 0, none⟩ = some v0 ∧ W.cell? ⟨b, 1, none⟩ = some v1 ∧ W.cell? ⟨b, 2, none⟩ = some v2 ∧ ∀ i, W.frozen? ⟨b, i, none⟩ = false
theorem Box3.kept {W W' : World} {b : Nat} {v0 v1 v2 : Value} (h : Box3 W b v0 v1 v2) (hb : W'.heap[b]? = W.heap[b]?) : Box3 W' b v0 v1 v2 := by
  obtain ⟨h0, h1, h2, h3⟩ := h
  exact ⟨(World.cell?_of_block (a := ⟨b, 0, none⟩) hb).trans h0, (World.cell?_of_block (a := ⟨b, 1, none⟩) hb).trans h1, (World.cell?_of_block (a := ⟨b, 2, none⟩) hb).trans h2, fun i => (World.frozen?_of_block (a := ⟨b, i, none⟩) hb).trans (h3 i)⟩
theorem Box3.lt {W : World} {b : Nat} {v0 v1 v2 : Value} (h : Box3 W b v0 v1 v2) : b < W.heap.size := World.block_lt_of_cell? W ⟨b, 0, none⟩ h.1
theorem Box3.new (w : World) (v0 v1 v2 : Value) (t : TypeId) : Box3 (w.alloc (.cells #[v0, v1, v2] t)) w.heap.size v0 v1 v2 := by
  have c := cells_at w [v0, v1, v2] t
  refine ⟨c 0 _ rfl, c 1 _ rfl, c 2 _ rfl, fun i => ?_⟩
  rw [World.frozen?, World.alloc_heap_new]
  simp
end Go.Proofs.YtlelgbmbmajfmaaGreatDoor
namespace Go.Proofs.YtlelgbmbmajfmaaGreatDoor
open Go.RowKit Go.Shelf Go.Lib
def Strs (w : World) (v : Value) (xs : List ByteArray) : Prop :=
  ∃ p c, v = .slice p xs.length c ∧ xs.length ≤ c ∧ (xs = [] ∨ ∃ bk o, p = some ⟨bk, o, none⟩ ∧ bk < w.heap.size ∧ ∀ (j : Nat) x, xs[j]? = some x → w.cell? ⟨bk, o + j, none⟩ = some (.string x))
theorem Strs.below {w w' : World} {v : Value} {xs : List ByteArray} (h : Strs w v xs) (hb : Below w.heap.size w w') : Strs w' v xs := by
  obtain ⟨p, c, hv, hc, h⟩ := h
  refine ⟨p, c, hv, hc, ?_⟩
  rcases h with h | ⟨bk, o, hp, hk, h⟩
  · exact .inl h
  · exact .inr ⟨bk, o, hp, Nat.lt_of_lt_of_le hk hb.size, fun j x hx => (hb.cell (p := ⟨bk, o + j, none⟩) hk).trans (h j x hx)⟩
def OwnS (base : Nat) (w : World) (v : Value) (l : List ByteArray) : Prop := w.ownsRow base 9 1 v l.length (l.map Value.string)
theorem OwnS.nil (base : Nat) (w : World) : OwnS base w (.slice none 0 0) [] := World.ownsRow_nil _ _ _ _
theorem OwnS.form {base : Nat} {w : World} {v : Value} {l : List ByteArray} (h : OwnS base w v l) : ∃ p c, v = .slice p l.length c := by
  obtain ⟨_, ⟨rfl, h0⟩ | ⟨g, cap, cur, rfl, _⟩⟩ := h
  · exact ⟨none, 0, by rw [h0]⟩
  · exact ⟨_, _, rfl⟩
theorem OwnS.lt {base : Nat} {w : World} {v : Value} {l : List ByteArray} (h : OwnS base w v l) : ∀ k, v.ownBlock = some k → base ≤ k ∧ k < w.heap.size := World.ownsRow.lt h
theorem OwnS.kept {base : Nat} {w w' : World} {row : Option Nat} {v : Value} {l : List ByteArray} (h : OwnS base w v l) (hg : w.grownBy w' row) (hne : v.ownBlock = none ∨ v.ownBlock ≠ row) : OwnS base w' v l := World.ownsRow.kept h hg hne
theorem OwnS.of_block {base : Nat} {w w' : World} {v : Value} {l : List ByteArray} (h : OwnS base w v l) (hb : ∀ k, v.ownBlock = some k → w'.heap[k]? = w.heap[k]?) : OwnS base w' v l := by
  obtain ⟨h1, h2⟩ := h
  refine ⟨h1, ?_⟩
  rcases h2 with h2 | ⟨g, cap, cur, hv, hg, hh, r⟩
  · exact .inl h2
  · exact .inr ⟨g, cap, cur, hv, hg, by rw [hb g (by rw [hv]; rfl)]; exact hh, r⟩
theorem OwnS.opened {base : Nat} {w : World} {v : Value} {l : List ByteArray} (h : OwnS base w v l) (h0 : 0 < l.length) :
    ∃ g c, v = .slice (some ⟨g, 0, none⟩) l.length c ∧ base ≤ g ∧ g < w.heap.size ∧ (∀ j x, l[j]? = some x → w.cell? ⟨g, j, none⟩ = some (.string x)) ∧ (∀ j, w.frozen? ⟨g, j, none⟩ = false) := by
  have h' := h
  obtain ⟨_, ⟨_, hn⟩ | ⟨g, cap, cur, rfl, hb, hg, _⟩⟩ := h
  · omega
  · refine ⟨g, cap, rfl, hb, (Array.getElem?_eq_some_iff.1 hg).1, fun j x hj => ?_, fun j => World.ownsRow.frozenAt h' j⟩
    have hl := (List.getElem?_eq_some_iff.1 hj).1
    rw [World.ownsRow.cellAt h' j (by omega), List.getElem?_map, hj]; rfl
theorem OwnS.stored {base g c n : Nat} {w : World} {l : List ByteArray} (h : OwnS base w (.slice (some ⟨g, 0, none⟩) n c) l) (j : Nat) (b : ByteArray) :
    OwnS base (w.setCell ⟨g, j, none⟩ (.string b)) (.slice (some ⟨g, 0, none⟩) n c) (l.set j b) ∧ w.grownBy (w.setCell ⟨g, j, none⟩ (.string b)) (some g) := by
  obtain ⟨p, c', hv⟩ := OwnS.form h
  obtain rfl : n = l.length := by cases hv; rfl
  have h1 := World.ownsRow.stored (u := .string b) h j
  refine ⟨?_, h1.2⟩
  unfold OwnS
  rw [List.length_set, List.map_set]
  exact h1.1
theorem OwnS.base {b b' : Nat} {w : World} {v : Value} {l : List ByteArray} (h : OwnS b w v l) (hb : b' ≤ b) : OwnS b' w v l := by
  obtain ⟨h1, h2⟩ := h
  refine ⟨h1, ?_⟩
  rcases h2 with h2 | ⟨g, cap, cur, hv, hg, r⟩
  · exact .inl h2
  · exact .inr ⟨g, cap, cur, hv, by omega, r⟩
theorem OwnS.after {b : Nat} {w w' : World} {v : Value} {l : List ByteArray} (h : OwnS b w v l) (hb : Below w.heap.size w w') : OwnS b w' v l := h.of_block (fun k e => hb.block k (h.lt k e).2)
end Go.Proofs.YtlelgbmbmajfmaaGreatDoor
namespace Go.Proofs.YtlelgbmbmajfmaaGreatDoor
open Go.RowKit Go.Shelf Go.Lib
structure LogD where
  addr : ByteArray
  tops : List ByteArray
  data : ByteArray
def Logs (w : World) (v : Value) (ls : List LogD) : Prop :=
  ∃ p c, v = .slice p ls.length c ∧ ls.length ≤ c ∧ (ls = [] ∨ ∃ bk o, p = some ⟨bk, o, none⟩ ∧ bk < w.heap.size ∧ ∀ (j : Nat) x, ls[j]? = some x → ∃ u, w.cell? ⟨bk, o + j * 3, none⟩ = some (.string x.addr) ∧ w.cell? ⟨bk, o + j * 3 + 1, none⟩ = some u ∧ w.cell? ⟨bk, o + j * 3 + 2, none⟩ = some (.string x.data) ∧ Strs w u x.tops)
theorem Logs.below {w w' : World} {v : Value} {ls : List LogD} (h : Logs w v ls) (hb : Below w.heap.size w w') : Logs w' v ls := by
  obtain ⟨p, c, hv, hc, h⟩ := h
  refine ⟨p, c, hv, hc, ?_⟩
  rcases h with h | ⟨bk, o, hp, hk, h⟩
  · exact .inl h
  · refine .inr ⟨bk, o, hp, Nat.lt_of_lt_of_le hk hb.size, fun j x hx => ?_⟩
    obtain ⟨u, h1, h2, h3, h4⟩ := h j x hx
    exact ⟨u, (hb.cell (p := ⟨bk, o + j * 3, none⟩) hk).trans h1, (hb.cell (p := ⟨bk, o + j * 3 + 1, none⟩) hk).trans h2, (hb.cell (p := ⟨bk, o + j * 3 + 2, none⟩) hk).trans h3, h4.below hb⟩
theorem Logs.nil (w : World) : Logs w (.slice none 0 0) [] := ⟨none, 0, rfl, Nat.le_refl _, .inl rfl⟩
theorem Logs.form {w : World} {v : Value} {ls : List LogD} (h : Logs w v ls) : ∃ p c, v = .slice p ls.length c := by
  obtain ⟨p, c, hv, _⟩ := h
  exact ⟨p, c, hv⟩
theorem Strs.form {w : World} {v : Value} {xs : List ByteArray} (h : Strs w v xs) : ∃ p c, v = .slice p xs.length c := by
  obtain ⟨p, c, hv, _⟩ := h
  exact ⟨p, c, hv⟩
theorem Strs.nil (w : World) : Strs w (.slice none 0 0) [] := ⟨none, 0, rfl, Nat.le_refl _, .inl rfl⟩
end Go.Proofs.YtlelgbmbmajfmaaGreatDoor
