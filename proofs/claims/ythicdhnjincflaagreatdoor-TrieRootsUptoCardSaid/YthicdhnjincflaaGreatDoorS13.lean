/- What the walks take: AllB, DecA, ShoT, TakB, TxtS, ApT. -/
import Derived.Test.YthicdhnjincflaaGreatDoorS9
import Derived.Test.YthicdhnjincflaaGreatDoorS11
import Derived.Test.YthicdhnjincflaaGreatDoorS12
import Derived.Maps.AppendAt
import Derived.Deep.AppendLies
import Derived.Outline
import Derived.Deep.RegionHeld3
namespace Go.Proofs.YthicdhnjincflaaGreatDoor
open Go.RowKit Go.Shelf Go.Lib
theorem infoItem : (Tryz.prog.info? 46).map (fun i => (i.zero, i.size, i.bytes)) = some (some (.agg #[.bool false, .string ⟨#[]⟩, .slice none 0 0]), 3, 48) := by kernel_rfl
theorem OwnI.form {base : Nat} {w : World} {v : Value} {l : List (Item × Value)} (h : OwnI base w v l) : ∃ p c, v = .slice p l.length c := by
  obtain ⟨_, ⟨rfl, h0⟩ | ⟨g, cap, cur, rfl, _⟩⟩ := h
  · exact ⟨none, 0, by rw [h0]⟩
  · exact ⟨_, _, rfl⟩
theorem OwnI.ge {base : Nat} {w : World} {v : Value} {l : List (Item × Value)} (h : OwnI base w v l) : ∀ k, v.ownBlock = some k → base ≤ k ∧ k < w.heap.size := World.ownsRow.lt h
theorem OwnI.kept {base : Nat} {w w' : World} {row : Option Nat} {v : Value} {l : List (Item × Value)} (h : OwnI base w v l) (hg : w.grownBy w' row) (hne : v.ownBlock = none ∨ v.ownBlock ≠ row) : OwnI base w' v l := World.ownsRow.kept h hg hne
theorem OwnI.alloc {base : Nat} {w : World} {v : Value} {l : List (Item × Value)} (h : OwnI base w v l) (o : Obj) : OwnI base (w.alloc o) v l := World.ownsRow.alloc h o
/-- append of one item whose cells lie at an address -/
theorem run_appendI {base : Nat} {w : World} {v : Value} {l : List (Item × Value)} (hown : OwnI base w v l) (ad : Addr) (c : Nat) (q : Item × Value) (hq : ∃ p n c, q.2 = .slice p n c)
    (hnews : ∀ j u, (itemCells [q])[j]? = some u → w.cell? (ad.add j) = some u) (h63 : l.length ≤ 1099511627776) (hbase : base ≤ w.heap.size) (ty : TypeId) :
    ∃ v' w', (Builtin.append_ #[44, 44] ty #[v, .slice (some ad) 1 c]).run Tryz.prog w = .ok v' w' ∧ OwnI base w' v' (l ++ [q]) ∧ w.grownBy w' v.ownBlock ∧ (v'.ownBlock = v.ownBlock ∨ v'.ownBlock = some w.heap.size) := by
  obtain ⟨i0, hi0, hz0, hz1, hz2⟩ := info_parts infoItem
  obtain ⟨p, n, cq, hqv⟩ := hq
  obtain ⟨v', w', hr, h1, h2, _, h3⟩ := run_append_own_at (P := Tryz.prog) w base 44 ty 46 i0 _ 3 48 Tryz.underlying44 hi0 hz0 hz1 hz2 rfl (by omega) v l.length (itemCells l) hown ad 1 c (itemCells [q]) (by rw [itemCells_length]; simp) hnews
    (fun u hu => by simp only [itemCells, List.flatMap_cons, List.flatMap_nil, List.append_nil, List.mem_cons, List.not_mem_nil, or_false, hqv] at hu; rcases hu with rfl | rfl | rfl <;> rfl) (by unfold maxLen; omega) (by omega) hbase
  refine ⟨v', w', hr, ?_, h2, h3⟩
  unfold OwnI
  rw [itemCells_append, List.length_append]
  exact h1
/-- items that are read stay so where the one block that turns is not read, or holds no cells -/
theorem ReadsIn.grown {w w' : World} {A A' : Nat → Prop} {v : Value} {xs : List Item} {row : Option Nat} (h : ReadsIn w A v xs) (hg : w.grownBy w' row)
    (hr : ∀ r, row = some r → A r → ∃ o : Obj, w.heap[r]? = some o ∧ o.isCells = false) (hA : ∀ g, A g → A' g) : ReadsIn w' A' v xs :=
  h.kept (fun g u o hg' hc => by
    obtain ⟨ob, ho, hcl⟩ := cells_of_cell hc
    have hb := hg.block g (Array.getElem?_eq_some_iff.1 ho).1 (fun e => by
      obtain ⟨ob', ho', hcl'⟩ := hr g e.symm hg'
      have ho2 : w.heap[g]? = some ob := ho
      rw [ho2] at ho'; cases ho'; rw [hcl] at hcl'; cases hcl')
    exact (World.cell?_of_block (a := ⟨g, o, none⟩) hb).trans hc) hA
/-- the variables of rlp.all between two rounds; v: the row's value -/
def AllV (w : World) (pre : List El) (v : Value) (W : World) : Prop :=
  (∀ q, q ∈ pre → q.2 = true) ∧ Boxed W w.heap.size 44 v ∧ OwnI (w.heap.size + 3) W v (pre.map Prod.fst) ∧ Boxed W (w.heap.size + 1) 4 (.bool true) ∧
    (∃ t, Boxed W (w.heap.size + 2) 9 (.string t)) ∧ Below w.heap.size w W ∧
    ∀ q, q ∈ pre → ReadsIn W (fun g => w.heap.size + 3 ≤ g ∧ g < W.heap.size ∧ v.ownBlock ≠ some g) q.1.2 q.1.1.list
theorem AllV.row {w W W' : World} {pre : List El} {v : Value} {row : Option Nat} (h : AllV w pre v W) (hg : W.grownBy W' row) (hr : ∀ r, row = some r → w.heap.size + 3 ≤ r ∧ ∃ o : Obj, W.heap[r]? = some o ∧ o.isCells = false) : AllV w pre v W' := by
  obtain ⟨h1, h2, h3, h4, ⟨t, h5⟩, h6, h7⟩ := h
  refine ⟨h1, h2.kept hg (fun e => by have := (hr _ e.symm).1; omega), h3.kept hg ?_, h4.kept hg (fun e => by have := (hr _ e.symm).1; omega), ⟨t, h5.kept hg (fun e => by have := (hr _ e.symm).1; omega)⟩,
    h6.grown hg h6.size (fun k e => by have := (hr _ e).1; omega), fun q hq => ?_⟩
  · cases hv : v.ownBlock with
    | none => exact .inl rfl
    | some k =>
      refine .inr (fun e => ?_)
      obtain ⟨_, o, ho, hc⟩ := hr k e.symm
      obtain ⟨_, ⟨rfl, _⟩ | ⟨g', cap, cur, rfl, _, hgg, _⟩⟩ := h3
      · cases hv
      · cases hv; rw [hgg] at ho; cases ho; cases hc
  · exact (h7 q hq).grown hg (fun r e _ => (hr r e).2) (fun g hg' => ⟨hg'.1, Nat.lt_of_lt_of_le hg'.2.1 hg.size, hg'.2.2⟩)
def AllI (w : World) (pre : List El) (W : World) : Prop := ∃ v, AllV w pre v W
theorem AllI.own (w : World) (B : Nat) (hB : w.heap.size + 3 ≤ B) : OwnFrom B (AllI w) := fun _ _ _ _ ⟨v, h⟩ hg hr => ⟨v, h.row hg (fun r e => ⟨Nat.le_trans hB (hr r e).1, (hr r e).2⟩)⟩
/-- where a round has found that there is none -/
def AllX (w : World) (c : Code) (pre : List El) (W : World) : Prop :=
  c = .exit 0 ∧ (∃ q, q ∈ pre ∧ q.2 = false) ∧ (∃ v, (∃ p n c, v = .slice p n c) ∧ Boxed W w.heap.size 44 v) ∧ Boxed W (w.heap.size + 1) 4 (.bool false) ∧ Below w.heap.size w W
theorem AllX.own (w : World) (c : Code) (B : Nat) (hB : w.heap.size + 3 ≤ B) : OwnFrom B (AllX w c) := fun _ _ _ _ ⟨h1, h2, ⟨v, hv, h3⟩, h4, h5⟩ hg hr =>
  ⟨h1, h2, ⟨v, hv, h3.kept hg (fun e => by have := (hr _ e.symm).1; omega)⟩, h4.kept hg (fun e => by have := (hr _ e.symm).1; omega), h5.grown hg h5.size (fun k e => by have := (hr _ e).1; omega)⟩
/-- a round's variables: the item's box beside -/
def AllB (w : World) (pre : List El) (x : El) (xb : Nat) (W : World) : Prop :=
  ∃ v, AllV w pre v W ∧ w.heap.size + 3 ≤ xb ∧ W.heap[xb]? = some (.cells #[.bool x.1.1.isList, .string ⟨x.1.1.text.toArray⟩, x.1.2] 46 (0, 0)) ∧ (∃ p n c, x.1.2 = .slice p n c) ∧
    (x.2 = true → ReadsIn W (fun g => w.heap.size + 3 ≤ g ∧ g < W.heap.size ∧ v.ownBlock ≠ some g) x.1.2 x.1.1.list)
theorem AllB.own (w : World) (pre : List El) (x : El) (xb : Nat) (B : Nat) (hB : w.heap.size + 3 ≤ B) : OwnFrom B (fun (_ : Unit) W => AllB w pre x xb W) := fun _ W W' row ⟨v, h1, h2, h3, h4, h5⟩ hg hr =>
  ⟨v, h1.row hg (fun r e => ⟨Nat.le_trans hB (hr r e).1, (hr r e).2⟩), h2, by
    rw [hg.block xb (Array.getElem?_eq_some_iff.1 h3).1 (fun e => by obtain ⟨_, o, ho, hc⟩ := hr xb e.symm; rw [h3] at ho; cases ho; cases hc)]
    exact h3, h4, fun hx => (h5 hx).grown hg (fun r e _ => (hr r e).2) (fun g hg' => ⟨hg'.1, Nat.lt_of_lt_of_le hg'.2.1 hg.size, hg'.2.2⟩)⟩
theorem heap_set2 {W : World} {b i k : Nat} {v : Value} (h : k ≠ b) : (W.setCell ⟨b, i, none⟩ v).heap[k]? = W.heap[k]? := Below.heap_setCell W ⟨b, i, none⟩ v k h
theorem grownBy_setCell2 (W : World) (b i : Nat) (v : Value) : W.grownBy (W.setCell ⟨b, i, none⟩ v) (some b) :=
  ⟨rfl, rfl, rfl, by simp, fun k _ hne => Below.heap_setCell W ⟨b, i, none⟩ v k (fun e => hne (by rw [e]))⟩
/-- append of one item, as one step of a region that draws its order -/
theorem step_appendI {ops : Array Oper} {o : Oper} {a : Act} {w : World} {K : Act → World → Prop} {Q : Exit → Act → World → Prop} {E : Prop} (hgd : o.guard = none) (s x : Operand)
    (ho : o.op = .call { callee := .builtin .append, args := #[s, x], argTypes := #[44, 44] })
    (base : Nat) (v : Value) (l : List (Item × Value)) (hs : a.eval s = v) (hown : OwnI base w v l) (ad : Addr) (c : Nat) (q : Item × Value) (hq : ∃ p n c, q.2 = .slice p n c) (hx : a.eval x = .slice (some ad) 1 c)
    (hnews : ∀ j u, (itemCells [q])[j]? = some u → w.cell? (ad.add j) = some u) (h63 : l.length ≤ 1099511627776) (hbase : base ≤ w.heap.size)
    (hK : ∀ v' w', OwnI base w' v' (l ++ [q]) → w.grownBy w' v.ownBlock → (v'.ownBlock = v.ownBlock ∨ v'.ownBlock = some w.heap.size) → K (a.put o.dst v') w') :
    if Region.wanted o (yielded ops a.tmps) = true then Oper.wp Tryz.prog o a w K Q else E := by
  have hw : Region.wanted o (yielded ops a.tmps) = true := by simp [Region.wanted, hgd]
  rw [if_pos hw]
  obtain ⟨v', w', hrun, r1, r2, r3⟩ := run_appendI hown ad c q hq hnews h63 hbase o.type
  unfold Oper.wp
  simp [execOp, ho, resolve, invoke, builtin, hs, hx, hrun, Result.andThen]
  exact hK v' w' r1 r2 r3
/-- behind a round that appended an item -/
theorem AllV.snoc {w W W' : World} {pre : List El} {x : El} {v v' : Value} {B : Nat} (h : AllV w pre v W) (hB : w.heap.size + 3 ≤ B) (hx2 : x.2 = true) (hrx : ReadsIn W (fun g => w.heap.size + 3 ≤ g ∧ g < W.heap.size ∧ v.ownBlock ≠ some g) x.1.2 x.1.1.list)
    (hl : Boxed W' w.heap.size 44 v') (hown : OwnI (w.heap.size + 3) W' v' (pre.map Prod.fst ++ [x.1])) (hz : W.heap.size ≤ W'.heap.size) (hv : v'.ownBlock = v.ownBlock ∨ ∃ k, v'.ownBlock = some k ∧ W.heap.size ≤ k)
    (hsame : ∀ k, k < W.heap.size → k ≠ w.heap.size → v.ownBlock ≠ some k → W'.heap[k]? = W.heap[k]?) (hb : Below w.heap.size w W') :
    KeepsFrom B W W' ∧ SameBox (w.heap.size + 2) W W' ∧ AllI w (pre ++ [x]) W' := by
  obtain ⟨h1, h2, h3, h4, ⟨t, h5⟩, h6, h7⟩ := h
  have hge := h3.ge
  have hA : ∀ {u : Value} {ys : List Item}, ReadsIn W (fun g => w.heap.size + 3 ≤ g ∧ g < W.heap.size ∧ v.ownBlock ≠ some g) u ys → ReadsIn W' (fun g => w.heap.size + 3 ≤ g ∧ g < W'.heap.size ∧ v'.ownBlock ≠ some g) u ys := fun hr =>
    hr.kept (fun g u o hg hc => (World.cell?_of_block (a := ⟨g, o, none⟩) (hsame g hg.2.1 (by omega) hg.2.2)).trans hc) (fun g hg => ⟨hg.1, Nat.lt_of_lt_of_le hg.2.1 hz, fun e => by
      rcases hv with hv | ⟨k, hk, hk2⟩
      · exact hg.2.2 (hv ▸ e)
      · rw [hk] at e; cases e; omega⟩)
  have s1 : W'.heap[w.heap.size + 1]? = W.heap[w.heap.size + 1]? := hsame _ h4.lt (by omega) (fun e => by have := (hge _ e).1; omega)
  have s2 : W'.heap[w.heap.size + 2]? = W.heap[w.heap.size + 2]? := hsame _ h5.lt (by omega) (fun e => by have := (hge _ e).1; omega)
  refine ⟨⟨hz, fun k o hk ho hc => (hsame k (Array.getElem?_eq_some_iff.1 ho).1 (by omega) (fun e => ?_)).trans ho⟩, s2, v', fun q hq => ?_, hl, by simpa using hown, s1.trans h4, ⟨t, s2.trans h5⟩, hb, fun q hq => ?_⟩
  · obtain ⟨_, ⟨rfl, _⟩ | ⟨g', cap, cur, rfl, _, hgg, _⟩⟩ := h3
    · cases e
    · cases e; rw [hgg] at ho; cases ho; cases hc
  · rcases List.mem_append.1 hq with hq | hq
    · exact h1 q hq
    · simp at hq; rw [hq]; exact hx2
  · rcases List.mem_append.1 hq with hq | hq
    · exact hA (h7 q hq)
    · simp at hq; rw [hq]; exact hA hrx
end Go.Proofs.YthicdhnjincflaaGreatDoor
/- Contract of rlp.all: the items of bytes. -/
namespace Go.Proofs.YthicdhnjincflaaGreatDoor
open Go.RowKit Go.Shelf Go.Lib
attribute [local go_sem] Oper.semAt_some
end Go.Proofs.YthicdhnjincflaaGreatDoor

namespace Go.Proofs.YthicdhnjincflaaGreatDoor
open Go.RowKit Go.Shelf Go.Lib
/-- the cells of a struct in a new block -/
theorem cells3_new (w : World) (v0 v1 v2 : Value) (t : TypeId) : (w.alloc (.cells #[v0, v1, v2] t)).heap[w.heap.size]? = some (.cells #[v0, v1, v2] t (0, 0)) := World.alloc_heap_new w _
end Go.Proofs.YthicdhnjincflaaGreatDoor

namespace Go.Proofs.YthicdhnjincflaaGreatDoor
open Go.RowKit Go.Shelf Go.Lib
theorem results_item0 {fn : Func} {p : Tmp} (h : fn.results = #[.cell p 46]) (tmps : Array Value) (w : World) (g : Nat) (v0 v1 v2 : Value) (hp : tmps.getD p undef = .pointer (some ⟨g, 0, none⟩))
    (h0 : w.cell? ⟨g, 0, none⟩ = some v0) (h1 : w.cell? ⟨g, 1, none⟩ = some v1) (h2 : w.cell? ⟨g, 2, none⟩ = some v2) :
    (results fn tmps).run Tryz.prog w = .ok (.agg #[v0, v1, v2]) w := by
  have hp' : tmps[p]?.getD undef = .pointer (some ⟨g, 0, none⟩) := by simpa using hp
  simp [results, h, hp', asAddr, loadItem w g v0 v1 v2 h0 h1 h2]
set_option maxRecDepth 100000 in
theorem list_any (p : Option Addr) (n c : Nat) (w : World) : Calls Tryz.prog 57 #[.slice p n c] w fun e w' => e = .returned (.agg #[.bool true, .string ⟨#[]⟩, .slice p n c]) ∧ Below w.heap.size w w' := by
  go_enter Tryz.func57, Tryz.ntmps57
  go_wp2
  refine bodyPost_ret (results_item0 rfl _ _ w.heap.size (.bool true) (.string ⟨#[]⟩) (.slice p n c) rfl ?_ ?_ ?_) rfl ?_
  · simp [go_sem]
  · simp [go_sem]
  · simp [go_sem]
  exact ⟨rfl, laid1 w _⟩
theorem cells_at (w : World) (xs : List Value) (t : TypeId) (j : Nat) (u : Value) (h : xs[j]? = some u) : (w.alloc (.cells xs.toArray t)).cell? ⟨w.heap.size, j, none⟩ = some u := by
  rw [World.cell?_alloc_mark]
  simpa using h
end Go.Proofs.YthicdhnjincflaaGreatDoor

namespace Go.Proofs.YthicdhnjincflaaGreatDoor
open Go.RowKit Go.Shelf Go.Lib
/-- three cells of a block that may be written -/
def Box3 (W : World) (b : Nat) (v0 v1 v2 : Value) : Prop := W.cell? ⟨b, 0, none⟩ = some v0 ∧ W.cell? ⟨b, 1, none⟩ = some v1 ∧ W.cell? ⟨b, 2, none⟩ = some v2 ∧ ∀ i, W.frozen? ⟨b, i, none⟩ = false
theorem Box3.kept {W W' : World} {b : Nat} {v0 v1 v2 : Value} (h : Box3 W b v0 v1 v2) (hb : W'.heap[b]? = W.heap[b]?) : Box3 W' b v0 v1 v2 := by
  obtain ⟨h0, h1, h2, h3⟩ := h
  exact ⟨(World.cell?_of_block (a := ⟨b, 0, none⟩) hb).trans h0, (World.cell?_of_block (a := ⟨b, 1, none⟩) hb).trans h1, (World.cell?_of_block (a := ⟨b, 2, none⟩) hb).trans h2, fun i => (World.frozen?_of_block (a := ⟨b, i, none⟩) hb).trans (h3 i)⟩
theorem Box3.set2 {W : World} {b : Nat} {v0 v1 v2 : Value} (h : Box3 W b v0 v1 v2) (u : Value) : Box3 (W.setCell ⟨b, 2, none⟩ u) b v0 v1 u := by
  obtain ⟨h0, h1, h2, h3⟩ := h
  exact ⟨(World.cell?_setCell_other _ _ _ _ (fun e => by cases e)).trans h0, (World.cell?_setCell_other _ _ _ _ (fun e => by cases e)).trans h1, World.cell?_setCell_same _ _ _ h2, fun i => by rw [World.frozen?_setCell]; exact h3 i⟩
theorem Box3.lt {W : World} {b : Nat} {v0 v1 v2 : Value} (h : Box3 W b v0 v1 v2) : b < W.heap.size := World.block_lt_of_cell? W ⟨b, 0, none⟩ h.1
theorem Box3.new (w : World) (v0 v1 v2 : Value) (t : TypeId) : Box3 (w.alloc (.cells #[v0, v1, v2] t)) w.heap.size v0 v1 v2 := by
  have c := cells_at w [v0, v1, v2] t
  refine ⟨c 0 _ rfl, c 1 _ rfl, c 2 _ rfl, fun i => ?_⟩
  rw [World.frozen?, World.alloc_heap_new]
  simp
/-- what take holds between two rounds: v is the row of the items that came -/
def TakV (w : World) (l : List (Item × Value)) (v : Value) (W : World) : Prop :=
  Below w.heap.size w W ∧ Box3 W w.heap.size (.bool false) (.string ⟨#[]⟩) (.slice none 0 0) ∧ Box3 W (w.heap.size + 1) (.bool true) (.string ⟨#[]⟩) v ∧ OwnI (w.heap.size + 2) W v l ∧
  ∀ q, q ∈ l → ReadsIn W (fun g => w.heap.size + 2 ≤ g ∧ g < W.heap.size ∧ v.ownBlock ≠ some g) q.2 q.1.list
theorem TakV.below {w W W' : World} {l : List (Item × Value)} {v : Value} (h : TakV w l v W) (hb : Below W.heap.size W W') : TakV w l v W' := by
  obtain ⟨h1, h2, h3, h4, h5⟩ := h
  have hg : W.grownBy W' none := ⟨hb.os, hb.tape, hb.output, hb.size, fun i hi _ => hb.block i hi⟩
  refine ⟨h1.trans (hb.mono h1.size), h2.kept (hb.block _ h2.lt), h3.kept (hb.block _ h3.lt), h4.kept hg ?_, fun q hq => (h5 q hq).grown hg (fun r e => by cases e) (fun g hg => ⟨hg.1, Nat.lt_of_lt_of_le hg.2.1 hb.size, hg.2.2⟩)⟩
  cases v.ownBlock with
  | none => exact .inl rfl
  | some k => exact .inr (by simp)
theorem TakV.snoc {w W W' : World} {l : List (Item × Value)} {v v' : Value} {q : Item × Value} (h : TakV w l v W)
    (hrx : ReadsIn W (fun g => w.heap.size + 2 ≤ g ∧ g < W.heap.size ∧ v.ownBlock ≠ some g) q.2 q.1.list) (hown : OwnI (w.heap.size + 2) W' v' (l ++ [q]))
    (hsame : ∀ k, k < W.heap.size → v.ownBlock ≠ some k → W'.heap[k]? = W.heap[k]?) (hz : W.heap.size ≤ W'.heap.size) (hb : Below w.heap.size w W')
    (hv : v'.ownBlock = v.ownBlock ∨ ∃ k, v'.ownBlock = some k ∧ W.heap.size ≤ k) : TakV w (l ++ [q]) v' (W'.setCell ⟨w.heap.size + 1, 2, none⟩ v') := by
  obtain ⟨h1, h2, h3, h4, h5⟩ := h
  have hge := h4.ge
  have hA : ∀ {u : Value} {ys : List Item}, ReadsIn W (fun g => w.heap.size + 2 ≤ g ∧ g < W.heap.size ∧ v.ownBlock ≠ some g) u ys → ReadsIn (W'.setCell ⟨w.heap.size + 1, 2, none⟩ v') (fun g => w.heap.size + 2 ≤ g ∧ g < (W'.setCell ⟨w.heap.size + 1, 2, none⟩ v').heap.size ∧ v'.ownBlock ≠ some g) u ys := fun hr =>
    hr.kept (fun g u o hg hc => (World.cell?_setCell_other _ _ _ _ (fun e => by cases e; have := hg.1; omega)).trans ((World.cell?_of_block (a := ⟨g, o, none⟩) (hsame g hg.2.1 hg.2.2)).trans hc)) (fun g hg => ⟨hg.1, by rw [World.size_setCell]; exact Nat.lt_of_lt_of_le hg.2.1 hz, fun e => by
      rcases hv with hv | ⟨k, hk, hk2⟩
      · exact hg.2.2 (hv ▸ e)
      · rw [hk] at e; cases e; omega⟩)
  have b0 := h3.lt
  refine ⟨hb.setCell (p := ⟨w.heap.size + 1, 2, none⟩) (show w.heap.size ≤ w.heap.size + 1 by omega) _, ?_, ?_, ?_, fun q' hq => ?_⟩
  · exact (h2.kept (hsame _ (by omega) (fun e => by have := (hge _ e).1; omega))).kept (heap_set2 (by omega))
  · exact (h3.kept (hsame _ (by omega) (fun e => by have := (hge _ e).1; omega))).set2 _
  · refine hown.kept (grownBy_setCell2 _ _ _ _) ?_
    cases hq : v'.ownBlock with
    | none => exact .inl rfl
    | some k => exact .inr (fun e => by cases e; have := (hown.ge _ hq).1; omega)
  · rcases List.mem_append.1 hq with hq | hq
    · exact hA (h5 q' hq)
    · simp at hq; rw [hq]; exact hA hrx
end Go.Proofs.YthicdhnjincflaaGreatDoor

namespace Go.Proofs.YthicdhnjincflaaGreatDoor
open Go.RowKit Go.Shelf Go.Lib
/-- texts in memory -/
def Strs (w : World) (v : Value) (xs : List ByteArray) : Prop :=
  ∃ p c, v = .slice p xs.length c ∧ xs.length ≤ c ∧ (xs = [] ∨ ∃ bk o, p = some ⟨bk, o, none⟩ ∧ bk < w.heap.size ∧ ∀ (j : Nat) x, xs[j]? = some x → w.cell? ⟨bk, o + j, none⟩ = some (.string x))
theorem Strs.below {w w' : World} {v : Value} {xs : List ByteArray} (h : Strs w v xs) (hb : Below w.heap.size w w') : Strs w' v xs := by
  obtain ⟨p, c, hv, hc, h⟩ := h
  refine ⟨p, c, hv, hc, ?_⟩
  rcases h with h | ⟨bk, o, hp, hk, h⟩
  · exact .inl h
  · exact .inr ⟨bk, o, hp, Nat.lt_of_lt_of_le hk hb.size, fun j x hx => (hb.cell (p := ⟨bk, o + j, none⟩) hk).trans (h j x hx)⟩
theorem infoStr : (Tryz.prog.info? 9).map (fun i => (i.zero, i.size, i.bytes)) = some (some (.string ⟨#[]⟩), 1, 16) := by kernel_rfl
/-- the texts l lie in a row that the call owns, from block base on; v is the slice -/
def OwnS (base : Nat) (w : World) (v : Value) (l : List ByteArray) : Prop := w.ownsRow base 9 1 v l.length (l.map Value.string)
theorem OwnS.nil (base : Nat) (w : World) : OwnS base w (.slice none 0 0) [] := World.ownsRow_nil _ _ _ _
theorem OwnS.form {base : Nat} {w : World} {v : Value} {l : List ByteArray} (h : OwnS base w v l) : ∃ p c, v = .slice p l.length c := by
  obtain ⟨_, ⟨rfl, h0⟩ | ⟨g, cap, cur, rfl, _⟩⟩ := h
  · exact ⟨none, 0, by rw [h0]⟩
  · exact ⟨_, _, rfl⟩
theorem OwnS.lt {base : Nat} {w : World} {v : Value} {l : List ByteArray} (h : OwnS base w v l) : ∀ k, v.ownBlock = some k → base ≤ k ∧ k < w.heap.size := World.ownsRow.lt h
theorem OwnS.kept {base : Nat} {w w' : World} {row : Option Nat} {v : Value} {l : List ByteArray} (h : OwnS base w v l) (hg : w.grownBy w' row) (hne : v.ownBlock = none ∨ v.ownBlock ≠ row) : OwnS base w' v l := World.ownsRow.kept h hg hne
theorem OwnS.of_block {base : Nat} {w w' : World} {v : Value} {l : List ByteArray} (h : OwnS base w v l) (hb : ∀ k, v.ownBlock = some k → w'.heap[k]? = w.heap[k]?) : OwnS base w' v l := by
  obtain ⟨h1, h2⟩ := h
  refine ⟨h1, ?_⟩
  rcases h2 with h2 | ⟨g, cap, cur, hv, hg, hh, r⟩
  · exact .inl h2
  · exact .inr ⟨g, cap, cur, hv, hg, by rw [hb g (by rw [hv]; rfl)]; exact hh, r⟩
/-- a row's block holds cells -/
theorem OwnS.cellsAt {base : Nat} {w : World} {v : Value} {l : List ByteArray} (h : OwnS base w v l) {k : Nat} (hk : v.ownBlock = some k) : ∃ o : Obj, w.heap[k]? = some o ∧ o.isCells = true := by
  obtain ⟨_, ⟨rfl, _⟩ | ⟨g, cap, cur, rfl, _, hg, _⟩⟩ := h
  · cases hk
  · cases hk; exact ⟨_, hg, rfl⟩
theorem OwnS.opened {base : Nat} {w : World} {v : Value} {l : List ByteArray} (h : OwnS base w v l) (h0 : 0 < l.length) :
    ∃ g c, v = .slice (some ⟨g, 0, none⟩) l.length c ∧ base ≤ g ∧ g < w.heap.size ∧ (∀ j x, l[j]? = some x → w.cell? ⟨g, j, none⟩ = some (.string x)) ∧ (∀ j, w.frozen? ⟨g, j, none⟩ = false) := by
  have h' := h
  obtain ⟨_, ⟨_, hn⟩ | ⟨g, cap, cur, rfl, hb, hg, _⟩⟩ := h
  · omega
  · refine ⟨g, cap, rfl, hb, (Array.getElem?_eq_some_iff.1 hg).1, fun j x hj => ?_, fun j => World.ownsRow.frozenAt h' j⟩
    have hl := (List.getElem?_eq_some_iff.1 hj).1
    rw [World.ownsRow.cellAt h' j (by omega), List.getElem?_map, hj]; rfl
theorem OwnS.cap {base : Nat} {w : World} {p : Option Addr} {n c : Nat} {l : List ByteArray} (h : OwnS base w (.slice p n c) l) : l.length ≤ c := by
  obtain ⟨_, ⟨e, h0⟩ | ⟨g, cap, cur, e, hb, hg, h1, h2⟩⟩ := h
  · omega
  · cases e; assumption
theorem OwnS.strs {base : Nat} {w : World} {v : Value} {l : List ByteArray} (h : OwnS base w v l) : Strs w v l := by
  have hf := h.form
  obtain ⟨p, c, rfl⟩ := hf
  refine ⟨p, c, rfl, h.cap, ?_⟩
  cases l with
  | nil => exact .inl rfl
  | cons x r =>
    obtain ⟨g, c', hv, _, hg, hc, _⟩ := h.opened (by simp)
    cases hv
    exact .inr ⟨g, 0, rfl, hg, fun j x hx => by rw [Nat.zero_add]; exact hc j x hx⟩
/-- a text is stored -/
theorem OwnS.stored {base g c n : Nat} {w : World} {l : List ByteArray} (h : OwnS base w (.slice (some ⟨g, 0, none⟩) n c) l) (j : Nat) (b : ByteArray) :
    OwnS base (w.setCell ⟨g, j, none⟩ (.string b)) (.slice (some ⟨g, 0, none⟩) n c) (l.set j b) ∧ w.grownBy (w.setCell ⟨g, j, none⟩ (.string b)) (some g) := by
  obtain ⟨p, c', hv⟩ := OwnS.form h
  obtain rfl : n = l.length := by cases hv; rfl
  have h1 := World.ownsRow.stored (u := .string b) h j
  refine ⟨?_, h1.2⟩
  unfold OwnS
  rw [List.length_set, List.map_set]
  exact h1.1
theorem OwnS.base {b b' : Nat} {w : World} {v : Value} {l : List ByteArray} (h : OwnS b w v l) (hb : b' ≤ b) : OwnS b' w v l := by
  obtain ⟨h1, h2⟩ := h
  refine ⟨h1, ?_⟩
  rcases h2 with h2 | ⟨g, cap, cur, hv, hg, r⟩
  · exact .inl h2
  · exact .inr ⟨g, cap, cur, hv, by omega, r⟩
theorem OwnS.after {b : Nat} {w w' : World} {v : Value} {l : List ByteArray} (h : OwnS b w v l) (hb : Below w.heap.size w w') : OwnS b w' v l := h.of_block (fun k e => hb.block k (h.lt k e).2)
end Go.Proofs.YthicdhnjincflaaGreatDoor

namespace Go.Proofs.YthicdhnjincflaaGreatDoor
open Go.RowKit Go.Shelf Go.Lib
attribute [local go_sem] Oper.semAt_some
theorem append_place {P : Program} (w : World) (base : Nat) (t ty e : TypeId) (i : TypeInfo) (z : Value) (bytes : Nat) (ht : P.underlying t = some (.slice e)) (hi : P.info? e = some i) (hz : i.zero = some z)
    (hsize : i.size = 1) (hby : i.bytes = bytes) (hzs : z.cells.size = 1)
    (v : Value) (n : Nat) (xs : List Value) (hown : w.ownsRow base e 1 v n xs)
    (a : Addr) (m c : Nat) (news : List Value) (hl : news.length = m * 1) (hnews : ∀ j u, news[j]? = some u → w.cell? (a.add j) = some u) (h1 : ∀ u ∈ news, u.oneCell' = true)
    (h63 : n + m ≤ maxLen) (hbytes : (n + m) * bytes ≤ 140737488355328) (v' : Value) (w' : World) (hrun : (Builtin.append_ #[t, t] ty #[v, .slice (some a) m c]).run P w = .ok v' w') :
    v'.ownBlock = v.ownBlock ∨ ∀ k, v'.ownBlock = some k → w.heap.size ≤ k := by
  have hsmall : n + m ≤ 9223372036854775807 := by simp only [maxLen] at h63; omega
  subst hby
  rcases hown.2 with ⟨rfl, rfl⟩ | ⟨g, cap, cur, rfl, hbg, hg, hnc, hcm, hcs, htake⟩
  · have hx : xs = [] := List.eq_nil_of_length_eq_zero (by simpa using hown.1)
    subst hx
    obtain ⟨v1, w1, hr, h2, _⟩ := run_append_own (P := P) w w.heap.size t ty e i z 1 i.bytes ht hi hz hsize rfl hzs (by decide) _ _ _ (World.ownsRow_nil w w.heap.size e 1) a m c news hl hnews h1 h63 hbytes (Nat.le_refl _)
    rw [hr] at hrun
    cases hrun
    exact .inr fun k hk => (World.ownsRow.lt h2 k hk).1
  · by_cases hroom : n + m ≤ cap
    · have hr := run_append_room (P := P) w t ty e i ht hi g n cap cur hg a m c news (by rw [hsize]; exact hl) hnews h1 hroom (by rw [hsize, hl, hcs, ← Nat.add_mul]; exact Nat.mul_le_mul_right _ hroom)
      rw [hr] at hrun
      cases hrun
      exact .inl rfl
    · have holds : ∀ j u, xs[j]? = some u → w.cell? ((⟨g, 0, none⟩ : Addr).add j) = some u := hown.cells (g := g) rfl
      have hr := run_append_grow (P := P) w t ty e i z ht hi hz ⟨g, 0, none⟩ n cap xs (by rw [hsize]; exact hown.1) holds a m c news (by rw [hsize]; exact hl) hnews (by omega) (by omega) (growslice_fits (by omega) hbytes)
      rw [hr] at hrun
      cases hrun
      exact .inr fun k hk => by cases hk; exact Nat.le_refl _
theorem run_appendTs {P : Program} (base : Nat) (w : World) (t ty : TypeId) (ht : P.underlying t = some (.slice 9)) (hi : (P.info? 9).map (fun i => (i.zero, i.size, i.bytes)) = some (some (.string ⟨#[]⟩), 1, 16))
    (v : Value) (l : List ByteArray) (hown : OwnS base w v l)
    (ad : Addr) (m c : Nat) (news : List ByteArray) (hl : news.length = m) (hnews : ∀ (j : Nat) x, news[j]? = some x → w.cell? (ad.add j) = some (.string x))
    (h63 : l.length + m ≤ 1099511627776) (hbase : base ≤ w.heap.size) :
    ∃ v' w', (Builtin.append_ #[t, t] ty #[v, .slice (some ad) m c]).run P w = .ok v' w' ∧ OwnS base w' v' (l ++ news) ∧ w.grownBy w' v.ownBlock ∧ (v'.ownBlock = v.ownBlock ∨ ∀ k, v'.ownBlock = some k → w.heap.size ≤ k) := by
  obtain ⟨i0, hi0, hz0, hz1, hz2⟩ := info_parts hi
  have hpl := append_place w base t ty 9 i0 (.string ⟨#[]⟩) 16 ht hi0 hz0 hz1 hz2 rfl v l.length (l.map Value.string) hown ad m c (news.map Value.string) (by simp [hl]) (fun j u hu => by
    rw [List.getElem?_map] at hu
    cases hx : news[j]? with
    | none => rw [hx] at hu; cases hu
    | some x => rw [hx] at hu; cases hu; exact hnews j x hx) (by
    intro u hu
    obtain ⟨x, _, rfl⟩ := List.mem_map.1 hu
    rfl) (by unfold maxLen; omega) (by omega)
  obtain ⟨v', w', h1, h2, h3, _⟩ := run_append_own (P := P) w base t ty 9 i0 (.string ⟨#[]⟩) 1 16 ht hi0 hz0 hz1 hz2 rfl (by decide) v l.length (l.map Value.string) hown ad m c (news.map Value.string) (by simp [hl]) (fun j u hu => by
    rw [List.getElem?_map] at hu
    cases hx : news[j]? with
    | none => rw [hx] at hu; cases hu
    | some x => rw [hx] at hu; cases hu; exact hnews j x hx) (by
    intro u hu
    obtain ⟨x, _, rfl⟩ := List.mem_map.1 hu
    rfl) (by unfold maxLen; omega) (by omega) hbase
  refine ⟨v', w', h1, ?_, h3, hpl v' w' h1⟩
  unfold OwnS
  rw [List.map_append, List.length_append, hl]
  exact h2
/-- 'append(l, more..)' onto a row of texts -/
theorem wpList_appendTs {P : Program} {ops : Array Oper} {rest : List Oper} {o : Oper} {a : Act} {w : World} {Q : Exit → Act → World → Prop} (hgd : o.guard = none) (s x : Operand) (t : TypeId)
    (ho : o.op = .call { callee := .builtin .append, args := #[s, x], argTypes := #[t, t] })
    (base : Nat) (ht : P.underlying t = some (.slice 9)) (hi : (P.info? 9).map (fun i => (i.zero, i.size, i.bytes)) = some (some (.string ⟨#[]⟩), 1, 16))
    (v : Value) (l : List ByteArray) (hs : a.eval s = v) (hown : OwnS base w v l)
    (ad : Addr) (m c : Nat) (news : List ByteArray) (hx : a.eval x = .slice (some ad) m c) (hl : news.length = m) (hnews : ∀ (j : Nat) x, news[j]? = some x → w.cell? (ad.add j) = some (.string x))
    (h63 : l.length + m ≤ 1099511627776) (hbase : base ≤ w.heap.size)
    (h : ∀ v' w', OwnS base w' v' (l ++ news) → w.grownBy w' v.ownBlock → (v'.ownBlock = v.ownBlock ∨ ∀ k, v'.ownBlock = some k → w.heap.size ≤ k) → wpList P ops Q rest (a.put o.dst v') w') : wpList P ops Q (o :: rest) a w := by
  obtain ⟨v', w', hr, h2, h3, h4⟩ := run_appendTs (P := P) base w t o.type ht hi v l hown ad m c news hl hnews h63 hbase
  refine wpList_plain hgd fun K hK => ?_
  unfold Oper.wp execOp
  simp only [ho, resolve, invoke, builtin, Sem.run_bind, Sem.run_pure, Result.andThen_ok, List.map_toArray, List.map_cons, List.map_nil, hs, hx, hr]
  exact hK _ _ (h v' w' h2 h3 h4)
/-- the same, as one step of a region that draws its order -/
theorem step_appendTs {P : Program} {ops : Array Oper} {o : Oper} {a : Act} {w : World} {K : Act → World → Prop} {Q : Exit → Act → World → Prop} {E : Prop} (hw : Region.wanted o (yielded ops a.tmps) = true) (s x : Operand) (t : TypeId)
    (ho : o.op = .call { callee := .builtin .append, args := #[s, x], argTypes := #[t, t] })
    (base : Nat) (ht : P.underlying t = some (.slice 9)) (hi : (P.info? 9).map (fun i => (i.zero, i.size, i.bytes)) = some (some (.string ⟨#[]⟩), 1, 16))
    (v : Value) (l : List ByteArray) (hs : a.eval s = v) (hown : OwnS base w v l)
    (ad : Addr) (m c : Nat) (news : List ByteArray) (hx : a.eval x = .slice (some ad) m c) (hl : news.length = m) (hnews : ∀ (j : Nat) x, news[j]? = some x → w.cell? (ad.add j) = some (.string x))
    (h63 : l.length + m ≤ 1099511627776) (hbase : base ≤ w.heap.size)
    (hK : ∀ v' w', OwnS base w' v' (l ++ news) → w.grownBy w' v.ownBlock → (v'.ownBlock = v.ownBlock ∨ ∀ k, v'.ownBlock = some k → w.heap.size ≤ k) → K (a.put o.dst v') w') :
    if Region.wanted o (yielded ops a.tmps) = true then Oper.wp P o a w K Q else E := by
  rw [if_pos hw]
  obtain ⟨v', w', hr, h2, h3, h4⟩ := run_appendTs (P := P) base w t o.type ht hi v l hown ad m c news hl hnews h63 hbase
  unfold Oper.wp execOp
  simp only [ho, resolve, invoke, builtin, Sem.run_bind, Sem.run_pure, Result.andThen_ok, List.map_toArray, List.map_cons, List.map_nil, hs, hx, hr]
  exact hK _ _ h2 h3 h4
theorem one_at {P : Prop} {x y : ByteArray} {j : Nat} (h : [x][j]? = some y) (k : j = 0 → x = y → P) : P := by
  match j, h with
  | 0, h => exact k rfl (Option.some.inj h)
end Go.Proofs.YthicdhnjincflaaGreatDoor
