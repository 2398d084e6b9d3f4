/- What rlp.all holds between two rounds, and the append of an item. -/
import Derived.Test.YtjccllfgendpdaaDoorIteB
import Derived.Test.YtjccllfgendpdaaDoorRound
import Derived.Maps.AppendAt
import Derived.Deep.AppendLies
namespace Go.Proofs.YtjccllfgendpdaaDoor
open Go.RowKit Go.Shelf Go.Lib

theorem infoItem : (Tryd.prog.info? 36).map (fun i => (i.zero, i.size, i.bytes)) = some (some (.agg #[.bool false, .string ⟨#[]⟩, .slice none 0 0]), 3, 48) := by kernel_rfl

/-- the cells of the zero item -/
def zeroCells3 : List Value := [.bool false, .string ⟨#[]⟩, .slice none 0 0]
theorem OwnI.at_ {base : Nat} {w : World} {v : Value} {l : List (Item × Value)} (h : OwnI base w v l) (hl : 0 < l.length) : ∃ g c, v = .slice (some ⟨g, 0, none⟩) l.length c ∧ base ≤ g ∧ g < w.heap.size := by
  obtain ⟨g, c, hv, h1, h2⟩ := World.ownsRow.form h hl
  exact ⟨g, c, hv, h1, h2⟩
theorem OwnI.form {base : Nat} {w : World} {v : Value} {l : List (Item × Value)} (h : OwnI base w v l) : ∃ p c, v = .slice p l.length c := by
  obtain ⟨_, ⟨rfl, h0⟩ | ⟨g, cap, cur, rfl, _⟩⟩ := h
  · exact ⟨none, 0, by rw [h0]⟩
  · exact ⟨_, _, rfl⟩
theorem OwnI.ge {base : Nat} {w : World} {v : Value} {l : List (Item × Value)} (h : OwnI base w v l) : ∀ k, v.ownBlock = some k → base ≤ k ∧ k < w.heap.size := World.ownsRow.lt h
theorem OwnI.kept {base : Nat} {w w' : World} {row : Option Nat} {v : Value} {l : List (Item × Value)} (h : OwnI base w v l) (hg : w.grownBy w' row) (hne : v.ownBlock = none ∨ v.ownBlock ≠ row) : OwnI base w' v l := World.ownsRow.kept h hg hne
theorem OwnI.alloc {base : Nat} {w : World} {v : Value} {l : List (Item × Value)} (h : OwnI base w v l) (o : Obj) : OwnI base (w.alloc o) v l := World.ownsRow.alloc h o
/-- append of one item whose cells lie at an address -/
theorem run_appendI {base : Nat} {w : World} {v : Value} {l : List (Item × Value)} (hown : OwnI base w v l) (ad : Addr) (c : Nat) (q : Item × Value) (hq : ∃ p n c, q.2 = .slice p n c)
    (hnews : ∀ j u, (itemCells [q])[j]? = some u → w.cell? (ad.add j) = some u) (h63 : l.length ≤ 1099511627776) (hbase : base ≤ w.heap.size) (ty : TypeId) :
    ∃ v' w', (Builtin.append_ #[34, 34] ty #[v, .slice (some ad) 1 c]).run Tryd.prog w = .ok v' w' ∧ OwnI base w' v' (l ++ [q]) ∧ w.grownBy w' v.ownBlock ∧ (v'.ownBlock = v.ownBlock ∨ v'.ownBlock = some w.heap.size) := by
  obtain ⟨i0, hi0, hz0, hz1, hz2⟩ := info_parts infoItem
  obtain ⟨p, n, cq, hqv⟩ := hq
  obtain ⟨v', w', hr, h1, h2, _, h3⟩ := run_append_own_at (P := Tryd.prog) w base 34 ty 36 i0 _ 3 48 Tryd.underlying34 hi0 hz0 hz1 hz2 rfl (by omega) v l.length (itemCells l) hown ad 1 c (itemCells [q]) (by rw [itemCells_length]; simp) hnews
    (fun u hu => by simp only [itemCells, List.flatMap_cons, List.flatMap_nil, List.append_nil, List.mem_cons, List.not_mem_nil, or_false, hqv] at hu; rcases hu with rfl | rfl | rfl <;> rfl) (by unfold maxLen; omega) (by omega) hbase
  refine ⟨v', w', hr, ?_, h2, h3⟩
  unfold OwnI
  rw [itemCells_append, List.length_append]
  exact h1
/-- the last item of a row is written anew -/
theorem OwnI.last {base g n c : Nat} {w : World} {l : List (Item × Value)} {q : Item × Value} (h : OwnI base w (.slice (some ⟨g, 0, none⟩) n c) (l ++ [q])) (q' : Item × Value) :
    OwnI base (((w.setCell ⟨g, l.length * 3, none⟩ (.bool q'.1.isList)).setCell ⟨g, l.length * 3 + 1, none⟩ (.string ⟨q'.1.text.toArray⟩)).setCell ⟨g, l.length * 3 + 2, none⟩ q'.2) (.slice (some ⟨g, 0, none⟩) n c) (l ++ [q']) ∧
    w.grownBy (((w.setCell ⟨g, l.length * 3, none⟩ (.bool q'.1.isList)).setCell ⟨g, l.length * 3 + 1, none⟩ (.string ⟨q'.1.text.toArray⟩)).setCell ⟨g, l.length * 3 + 2, none⟩ q'.2) (some g) := by
  obtain ⟨p, c', hv⟩ := OwnI.form h
  obtain rfl : n = (l ++ [q]).length := by cases hv; rfl
  have h1 := World.ownsRow.stored h (l.length * 3) (.bool q'.1.isList)
  have h2 := World.ownsRow.stored h1.1 (l.length * 3 + 1) (.string ⟨q'.1.text.toArray⟩)
  have h3 := World.ownsRow.stored h2.1 (l.length * 3 + 2) q'.2
  have e : (((itemCells (l ++ [q])).set (l.length * 3) (.bool q'.1.isList)).set (l.length * 3 + 1) (.string ⟨q'.1.text.toArray⟩)).set (l.length * 3 + 2) q'.2 = itemCells (l ++ [q']) := by
    have hl := itemCells_length l
    rw [itemCells_append, itemCells_append, ← hl]
    rw [List.set_append_right _ _ (by omega), List.set_append_right _ _ (by omega), List.set_append_right _ _ (by omega)]
    simp [itemCells, Nat.add_sub_cancel_left]
  rw [e] at h3
  refine ⟨?_, (h1.2.trans h2.2).trans h3.2⟩
  unfold OwnI
  have e2 : (l ++ [q']).length = (l ++ [q]).length := by simp
  rw [e2]
  exact h3.1
/-- items that are read stay so where the one block that turns is not read, or holds no cells -/
theorem ReadsIn.grown {w w' : World} {A A' : Nat → Prop} {v : Value} {xs : List Item} {row : Option Nat} (h : ReadsIn w A v xs) (hg : w.grownBy w' row)
    (hr : ∀ r, row = some r → A r → ∃ o : Obj, w.heap[r]? = some o ∧ o.isCells = false) (hA : ∀ g, A g → A' g) : ReadsIn w' A' v xs :=
  h.kept (fun g u o hg' hc => by
    obtain ⟨ob, ho, hcl⟩ := cells_of_cell hc
    have hb := hg.block g (Array.getElem?_eq_some_iff.1 ho).1 (fun e => by
      obtain ⟨ob', ho', hcl'⟩ := hr g e.symm hg'
      have ho2 : w.heap[g]? = some ob := ho
      rw [ho2] at ho'; cases ho'; rw [hcl] at hcl'; cases hcl')
    exact (World.cell?_of_block (a := ⟨g, o, none⟩) hb).trans hc) hA

/-- the variables of rlp.all between two rounds; v: the row's value -/
def AllV (w : World) (pre : List El) (v : Value) (W : World) : Prop :=
  (∀ q, q ∈ pre → q.2 = true) ∧ Boxed W w.heap.size 34 v ∧ OwnI (w.heap.size + 3) W v (pre.map Prod.fst) ∧ Boxed W (w.heap.size + 1) 4 (.bool true) ∧
    (∃ t, Boxed W (w.heap.size + 2) 9 (.string t)) ∧ Below w.heap.size w W ∧
    ∀ q, q ∈ pre → ReadsIn W (fun g => w.heap.size + 3 ≤ g ∧ g < W.heap.size ∧ v.ownBlock ≠ some g) q.1.2 q.1.1.list
theorem AllV.step {w W W' : World} {pre : List El} {v : Value} (h : AllV w pre v W) (hs : StepI (w.heap.size + 2) W W') : AllV w pre v W' := by
  obtain ⟨h1, h2, h3, h4, h5, h6, h7⟩ := h
  obtain ⟨s1, s2⟩ := hs
  refine ⟨h1, h2.kept s1 (by simp), h3.kept s1 ?_, h4.kept s1 (by simp), s2 h5, h6.grown s1 h6.size (fun k e => by cases e; omega), fun q hq => ?_⟩
  · cases hv : v.ownBlock with
    | none => exact .inl rfl
    | some k => exact .inr (fun e => by cases e; have := (h3.ge _ hv).1; omega)
  · refine (h7 q hq).grown s1 (fun r e hr => ?_) (fun g hg => ⟨hg.1, Nat.lt_of_lt_of_le hg.2.1 s1.size, hg.2.2⟩)
    cases e
    have := hr.1
    omega
theorem AllV.row {w W W' : World} {pre : List El} {v : Value} {row : Option Nat} (h : AllV w pre v W) (hg : W.grownBy W' row) (hr : ∀ r, row = some r → w.heap.size + 3 ≤ r ∧ ∃ o : Obj, W.heap[r]? = some o ∧ o.isCells = false) : AllV w pre v W' := by
  obtain ⟨h1, h2, h3, h4, ⟨t, h5⟩, h6, h7⟩ := h
  refine ⟨h1, h2.kept hg (fun e => by have := (hr _ e.symm).1; omega), h3.kept hg ?_, h4.kept hg (fun e => by have := (hr _ e.symm).1; omega), ⟨t, h5.kept hg (fun e => by have := (hr _ e.symm).1; omega)⟩,
    h6.grown hg h6.size (fun k e => by have := (hr _ e).1; omega), fun q hq => ?_⟩
  · cases hv : v.ownBlock with
    | none => exact .inl rfl
    | some k =>
      refine .inr (fun e => ?_)
      obtain ⟨_, o, ho, hc⟩ := hr k e.symm
      obtain ⟨_, ⟨rfl, _⟩ | ⟨g', cap, cur, rfl, _, hgg, _⟩⟩ := h3
      · cases hv
      · cases hv; rw [hgg] at ho; cases ho; cases hc
  · exact (h7 q hq).grown hg (fun r e _ => (hr r e).2) (fun g hg' => ⟨hg'.1, Nat.lt_of_lt_of_le hg'.2.1 hg.size, hg'.2.2⟩)
def AllI (w : World) (pre : List El) (W : World) : Prop := ∃ v, AllV w pre v W
theorem AllI.own (w : World) (B : Nat) (hB : w.heap.size + 3 ≤ B) : OwnFrom B (AllI w) := fun _ _ _ _ ⟨v, h⟩ hg hr => ⟨v, h.row hg (fun r e => ⟨Nat.le_trans hB (hr r e).1, (hr r e).2⟩)⟩
/-- where a round has found that there is none -/
def AllX (w : World) (c : Code) (pre : List El) (W : World) : Prop :=
  c = .exit 0 ∧ (∃ q, q ∈ pre ∧ q.2 = false) ∧ (∃ v, (∃ p n c, v = .slice p n c) ∧ Boxed W w.heap.size 34 v) ∧ Boxed W (w.heap.size + 1) 4 (.bool false) ∧ Below w.heap.size w W
theorem AllX.step {w W W' : World} {c : Code} {pre : List El} (h : AllX w c pre W) (hs : StepI (w.heap.size + 2) W W') : AllX w c pre W' := by
  obtain ⟨h1, h2, ⟨v, hv, h3⟩, h4, h5⟩ := h
  exact ⟨h1, h2, ⟨v, hv, h3.kept hs.1 (by simp)⟩, h4.kept hs.1 (by simp), h5.grown hs.1 h5.size (fun k e => by cases e; omega)⟩
theorem AllX.own (w : World) (c : Code) (B : Nat) (hB : w.heap.size + 3 ≤ B) : OwnFrom B (AllX w c) := fun _ _ _ _ ⟨h1, h2, ⟨v, hv, h3⟩, h4, h5⟩ hg hr =>
  ⟨h1, h2, ⟨v, hv, h3.kept hg (fun e => by have := (hr _ e.symm).1; omega)⟩, h4.kept hg (fun e => by have := (hr _ e.symm).1; omega), h5.grown hg h5.size (fun k e => by have := (hr _ e).1; omega)⟩
/-- a round's variables: the item's box beside -/
def AllB (w : World) (pre : List El) (x : El) (xb : Nat) (W : World) : Prop :=
  ∃ v, AllV w pre v W ∧ w.heap.size + 3 ≤ xb ∧ W.heap[xb]? = some (.cells #[.bool x.1.1.isList, .string ⟨x.1.1.text.toArray⟩, x.1.2] 36 (0, 0)) ∧ (∃ p n c, x.1.2 = .slice p n c) ∧
    (x.2 = true → ReadsIn W (fun g => w.heap.size + 3 ≤ g ∧ g < W.heap.size ∧ v.ownBlock ≠ some g) x.1.2 x.1.1.list)
theorem AllB.own (w : World) (pre : List El) (x : El) (xb : Nat) (B : Nat) (hB : w.heap.size + 3 ≤ B) : OwnFrom B (fun (_ : Unit) W => AllB w pre x xb W) := fun _ W W' row ⟨v, h1, h2, h3, h4, h5⟩ hg hr =>
  ⟨v, h1.row hg (fun r e => ⟨Nat.le_trans hB (hr r e).1, (hr r e).2⟩), h2, by
    rw [hg.block xb (Array.getElem?_eq_some_iff.1 h3).1 (fun e => by obtain ⟨_, o, ho, hc⟩ := hr xb e.symm; rw [h3] at ho; cases ho; cases hc)]
    exact h3, h4, fun hx => (h5 hx).grown hg (fun r e _ => (hr r e).2) (fun g hg' => ⟨hg'.1, Nat.lt_of_lt_of_le hg'.2.1 hg.size, hg'.2.2⟩)⟩
theorem OwnI.readsIn {base : Nat} {w : World} {v : Value} {l : List (Item × Value)} {A : Nat → Prop} (h : OwnI base w v l) (hb : ∀ k, v.ownBlock = some k → A k) (hr : ∀ q, q ∈ l → ReadsIn w A q.2 q.1.list) : ReadsIn w A v (l.map Prod.fst) := by
  have h' := h
  obtain ⟨_, ⟨rfl, hn⟩ | ⟨g, cap, cur, rfl, _, hg, _⟩⟩ := h
  · obtain rfl : l = [] := List.length_eq_zero_iff.1 hn
    exact ReadsIn.nil _ _
  · have hm : (l.map Prod.fst).length = l.length := by simp
    rw [← hm]
    refine ReadsIn.mk (hb g rfl) (fun i x hx => ?_)
    rw [List.getElem?_map] at hx
    cases hq : l[i]? with
    | none => rw [hq] at hx; cases hx
    | some q =>
      rw [hq] at hx
      cases hx
      have hi := (List.getElem?_eq_some_iff.1 hq).1
      have hc := fun j (hj : j < 3) => World.ownsRow.cellAt h' (i * 3 + j) (by omega)
      refine ⟨?_, ?_, q.2, ?_, hr q (List.mem_of_getElem? hq)⟩
      · have := hc 0 (by omega); rw [itemCells_at l i 0 q hq (by omega)] at this; simpa using this
      · have := hc 1 (by omega); rw [itemCells_at l i 1 q hq (by omega)] at this; simpa using this
      · have := hc 2 (by omega); rw [itemCells_at l i 2 q hq (by omega)] at this; simpa using this
theorem heap_set2 {W : World} {b i k : Nat} {v : Value} (h : k ≠ b) : (W.setCell ⟨b, i, none⟩ v).heap[k]? = W.heap[k]? := Below.heap_setCell W ⟨b, i, none⟩ v k h
theorem grownBy_setCell2 (W : World) (b i : Nat) (v : Value) : W.grownBy (W.setCell ⟨b, i, none⟩ v) (some b) :=
  ⟨rfl, rfl, rfl, by simp, fun k _ hne => Below.heap_setCell W ⟨b, i, none⟩ v k (fun e => hne (by rw [e]))⟩
theorem boxed_far {W : World} {B b i : Nat} {t : TypeId} {v : Value} (h : Boxed W B t v) (hne : B ≠ b) (u : Value) : Boxed (W.setCell ⟨b, i, none⟩ u) B t v := (heap_set2 hne).trans h
theorem cell_ad {W : World} {a : Addr} {u : Value} (o : Obj) (h : W.cell? a = some u) : (W.alloc o).drew.cell? a = some u :=
  (World.cell?_alloc_lt W o a (World.block_lt_of_cell? W a h)).trans h
theorem absurd_false {b : Bool} (ht : b = true) {p : Prop} (h : b = false) : p := by rw [ht] at h; cases h
/-- append of one item, as one step of a region that draws its order -/
theorem step_appendI {ops : Array Oper} {o : Oper} {a : Act} {w : World} {K : Act → World → Prop} {Q : Exit → Act → World → Prop} {E : Prop} (hgd : o.guard = none) (s x : Operand)
    (ho : o.op = .call { callee := .builtin .append, args := #[s, x], argTypes := #[34, 34] })
    (base : Nat) (v : Value) (l : List (Item × Value)) (hs : a.eval s = v) (hown : OwnI base w v l) (ad : Addr) (c : Nat) (q : Item × Value) (hq : ∃ p n c, q.2 = .slice p n c) (hx : a.eval x = .slice (some ad) 1 c)
    (hnews : ∀ j u, (itemCells [q])[j]? = some u → w.cell? (ad.add j) = some u) (h63 : l.length ≤ 1099511627776) (hbase : base ≤ w.heap.size)
    (hK : ∀ v' w', OwnI base w' v' (l ++ [q]) → w.grownBy w' v.ownBlock → (v'.ownBlock = v.ownBlock ∨ v'.ownBlock = some w.heap.size) → K (a.put o.dst v') w') :
    if Region.wanted o (yielded ops a.tmps) = true then Oper.wp Tryd.prog o a w K Q else E := by
  have hw : Region.wanted o (yielded ops a.tmps) = true := by simp [Region.wanted, hgd]
  rw [if_pos hw]
  obtain ⟨v', w', hrun, r1, r2, r3⟩ := run_appendI hown ad c q hq hnews h63 hbase o.type
  unfold Oper.wp
  simp [execOp, ho, resolve, invoke, builtin, hs, hx, hrun, Result.andThen]
  exact hK v' w' r1 r2 r3
/-- behind a round that appended an item -/
theorem AllV.snoc {w W W' : World} {pre : List El} {x : El} {v v' : Value} {B : Nat} (h : AllV w pre v W) (hB : w.heap.size + 3 ≤ B) (hx2 : x.2 = true) (hrx : ReadsIn W (fun g => w.heap.size + 3 ≤ g ∧ g < W.heap.size ∧ v.ownBlock ≠ some g) x.1.2 x.1.1.list)
    (hl : Boxed W' w.heap.size 34 v') (hown : OwnI (w.heap.size + 3) W' v' (pre.map Prod.fst ++ [x.1])) (hz : W.heap.size ≤ W'.heap.size) (hv : v'.ownBlock = v.ownBlock ∨ ∃ k, v'.ownBlock = some k ∧ W.heap.size ≤ k)
    (hsame : ∀ k, k < W.heap.size → k ≠ w.heap.size → v.ownBlock ≠ some k → W'.heap[k]? = W.heap[k]?) (hb : Below w.heap.size w W') :
    KeepsFrom B W W' ∧ SameBox (w.heap.size + 2) W W' ∧ AllI w (pre ++ [x]) W' := by
  obtain ⟨h1, h2, h3, h4, ⟨t, h5⟩, h6, h7⟩ := h
  have hge := h3.ge
  have hA : ∀ {u : Value} {ys : List Item}, ReadsIn W (fun g => w.heap.size + 3 ≤ g ∧ g < W.heap.size ∧ v.ownBlock ≠ some g) u ys → ReadsIn W' (fun g => w.heap.size + 3 ≤ g ∧ g < W'.heap.size ∧ v'.ownBlock ≠ some g) u ys := fun hr =>
    hr.kept (fun g u o hg hc => (World.cell?_of_block (a := ⟨g, o, none⟩) (hsame g hg.2.1 (by omega) hg.2.2)).trans hc) (fun g hg => ⟨hg.1, Nat.lt_of_lt_of_le hg.2.1 hz, fun e => by
      rcases hv with hv | ⟨k, hk, hk2⟩
      · exact hg.2.2 (hv ▸ e)
      · rw [hk] at e; cases e; omega⟩)
  have s1 : W'.heap[w.heap.size + 1]? = W.heap[w.heap.size + 1]? := hsame _ h4.lt (by omega) (fun e => by have := (hge _ e).1; omega)
  have s2 : W'.heap[w.heap.size + 2]? = W.heap[w.heap.size + 2]? := hsame _ h5.lt (by omega) (fun e => by have := (hge _ e).1; omega)
  refine ⟨⟨hz, fun k o hk ho hc => (hsame k (Array.getElem?_eq_some_iff.1 ho).1 (by omega) (fun e => ?_)).trans ho⟩, s2, v', fun q hq => ?_, hl, by simpa using hown, s1.trans h4, ⟨t, s2.trans h5⟩, hb, fun q hq => ?_⟩
  · obtain ⟨_, ⟨rfl, _⟩ | ⟨g', cap, cur, rfl, _, hgg, _⟩⟩ := h3
    · cases e
    · cases e; rw [hgg] at ho; cases ho; cases hc
  · rcases List.mem_append.1 hq with hq | hq
    · exact h1 q hq
    · simp at hq; rw [hq]; exact hx2
  · rcases List.mem_append.1 hq with hq | hq
    · exact hA (h7 q hq)
    · simp at hq; rw [hq]; exact hA hrx
end Go.Proofs.YtjccllfgendpdaaDoor
