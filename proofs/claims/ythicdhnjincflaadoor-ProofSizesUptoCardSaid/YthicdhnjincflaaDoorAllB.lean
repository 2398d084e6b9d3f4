/- What rlp.all holds between two rounds, and the append of an item. -/
import Derived.Test.YthicdhnjincflaaDoorIteB
import Derived.Test.YthicdhnjincflaaDoorRound
import Derived.Maps.AppendAt
import Derived.Deep.AppendLies
import Derived.Outline
namespace Go.Proofs.YthicdhnjincflaaDoor
open Go.RowKit Go.Shelf Go.Lib

theorem infoItem : (Tryd.prog.info? 58).map (fun i => (i.zero, i.size, i.bytes)) = some (some (.agg #[.bool false, .string ⟨#[]⟩, .slice none 0 0]), 3, 48) := by kernel_rfl

/-- the cells of the zero item -/
def zeroCells3 : List Value := [.bool false, .string ⟨#[]⟩, .slice none 0 0]
theorem OwnI.at_ {base : Nat} {w : World} {v : Value} {l : List (Item × Value)} (h : OwnI base w v l) (hl : 0 < l.length) : ∃ g c, v = .slice (some ⟨g, 0, none⟩) l.length c ∧ base ≤ g ∧ g < w.heap.size := by
  obtain ⟨g, c, hv, h1, h2⟩ := World.ownsRow.form h hl
  exact ⟨g, c, hv, h1, h2⟩
theorem OwnI.form {base : Nat} {w : World} {v : Value} {l : List (Item × Value)} (h : OwnI base w v l) : ∃ p c, v = .slice p l.length c := by
  obtain ⟨_, ⟨rfl, h0⟩ | ⟨g, cap, cur, rfl, _⟩⟩ := h
  · exact ⟨none, 0, by rw [h0]⟩
  · exact ⟨_, _, rfl⟩
theorem OwnI.ge {base : Nat} {w : World} {v : Value} {l : List (Item × Value)} (h : OwnI base w v l) : ∀ k, v.ownBlock = some k → base ≤ k ∧ k < w.heap.size := World.ownsRow.lt h
theorem OwnI.kept {base : Nat} {w w' : World} {row : Option Nat} {v : Value} {l : List (Item × Value)} (h : OwnI base w v l) (hg : w.grownBy w' row) (hne : v.ownBlock = none ∨ v.ownBlock ≠ row) : OwnI base w' v l := World.ownsRow.kept h hg hne
theorem OwnI.alloc {base : Nat} {w : World} {v : Value} {l : List (Item × Value)} (h : OwnI base w v l) (o : Obj) : OwnI base (w.alloc o) v l := World.ownsRow.alloc h o
/-- append of one item whose cells lie at an address -/
theorem run_appendI {base : Nat} {w : World} {v : Value} {l : List (Item × Value)} (hown : OwnI base w v l) (ad : Addr) (c : Nat) (q : Item × Value) (hq : ∃ p n c, q.2 = .slice p n c)
    (hnews : ∀ j u, (itemCells [q])[j]? = some u → w.cell? (ad.add j) = some u) (h63 : l.length ≤ 1099511627776) (hbase : base ≤ w.heap.size) (ty : TypeId) :
    ∃ v' w', (Builtin.append_ #[56, 56] ty #[v, .slice (some ad) 1 c]).run Tryd.prog w = .ok v' w' ∧ OwnI base w' v' (l ++ [q]) ∧ w.grownBy w' v.ownBlock ∧ (v'.ownBlock = v.ownBlock ∨ v'.ownBlock = some w.heap.size) := by
  obtain ⟨i0, hi0, hz0, hz1, hz2⟩ := info_parts infoItem
  obtain ⟨p, n, cq, hqv⟩ := hq
  obtain ⟨v', w', hr, h1, h2, _, h3⟩ := run_append_own_at (P := Tryd.prog) w base 56 ty 58 i0 _ 3 48 Tryd.underlying56 hi0 hz0 hz1 hz2 rfl (by omega) v l.length (itemCells l) hown ad 1 c (itemCells [q]) (by rw [itemCells_length]; simp) hnews
    (fun u hu => by simp only [itemCells, List.flatMap_cons, List.flatMap_nil, List.append_nil, List.mem_cons, List.not_mem_nil, or_false, hqv] at hu; rcases hu with rfl | rfl | rfl <;> rfl) (by unfold maxLen; omega) (by omega) hbase
  refine ⟨v', w', hr, ?_, h2, h3⟩
  unfold OwnI
  rw [itemCells_append, List.length_append]
  exact h1
/-- the last item of a row is written anew -/
theorem OwnI.last {base g n c : Nat} {w : World} {l : List (Item × Value)} {q : Item × Value} (h : OwnI base w (.slice (some ⟨g, 0, none⟩) n c) (l ++ [q])) (q' : Item × Value) :
    OwnI base (((w.setCell ⟨g, l.length * 3, none⟩ (.bool q'.1.isList)).setCell ⟨g, l.length * 3 + 1, none⟩ (.string ⟨q'.1.text.toArray⟩)).setCell ⟨g, l.length * 3 + 2, none⟩ q'.2) (.slice (some ⟨g, 0, none⟩) n c) (l ++ [q']) ∧
    w.grownBy (((w.setCell ⟨g, l.length * 3, none⟩ (.bool q'.1.isList)).setCell ⟨g, l.length * 3 + 1, none⟩ (.string ⟨q'.1.text.toArray⟩)).setCell ⟨g, l.length * 3 + 2, none⟩ q'.2) (some g) := by
  obtain ⟨p, c', hv⟩ := OwnI.form h
  obtain rfl : n = (l ++ [q]).length := by cases hv; rfl
  have h1 := World.ownsRow.stored h (l.length * 3) (.bool q'.1.isList)
  have h2 := World.ownsRow.stored h1.1 (l.length * 3 + 1) (.string ⟨q'.1.text.toArray⟩)
  have h3 := World.ownsRow.stored h2.1 (l.length * 3 + 2) q'.2
  have e : (((itemCells (l ++ [q])).set (l.length * 3) (.bool q'.1.isList)).set (l.length * 3 + 1) (.string ⟨q'.1.text.toArray⟩)).set (l.length * 3 + 2) q'.2 = itemCells (l ++ [q']) := by
    have hl := itemCells_length l
    rw [itemCells_append, itemCells_append, ← hl]
    rw [List.set_append_right _ _ (by omega), List.set_append_right _ _ (by omega), List.set_append_right _ _ (by omega)]
    simp [itemCells, Nat.add_sub_cancel_left]
  rw [e] at h3
  refine ⟨?_, (h1.2.trans h2.2).trans h3.2⟩
  unfold OwnI
  have e2 : (l ++ [q']).length = (l ++ [q]).length := by simp
  rw [e2]
  exact h3.1
/-- items that are read stay so where the one block that turns is not read, or holds no cells -/
theorem ReadsIn.grown {w w' : World} {A A' : Nat → Prop} {v : Value} {xs : List Item} {row : Option Nat} (h : ReadsIn w A v xs) (hg : w.grownBy w' row)
    (hr : ∀ r, row = some r → A r → ∃ o : Obj, w.heap[r]? = some o ∧ o.isCells = false) (hA : ∀ g, A g → A' g) : ReadsIn w' A' v xs :=
  h.kept (fun g u o hg' hc => by
    obtain ⟨ob, ho, hcl⟩ := cells_of_cell hc
    have hb := hg.block g (Array.getElem?_eq_some_iff.1 ho).1 (fun e => by
      obtain ⟨ob', ho', hcl'⟩ := hr g e.symm hg'
      have ho2 : w.heap[g]? = some ob := ho
      rw [ho2] at ho'; cases ho'; rw [hcl] at hcl'; cases hcl')
    exact (World.cell?_of_block (a := ⟨g, o, none⟩) hb).trans hc) hA

/-- the variables of rlp.all between two rounds; v: the row's value -/
def AllV (w : World) (pre : List El) (v : Value) (W : World) : Prop :=
  (∀ q, q ∈ pre → q.2 = true) ∧ Boxed W w.heap.size 56 v ∧ OwnI (w.heap.size + 3) W v (pre.map Prod.fst) ∧ Boxed W (w.heap.size + 1) 4 (.bool true) ∧
    (∃ t, Boxed W (w.heap.size + 2) 9 (.string t)) ∧ Below w.heap.size w W ∧
    ∀ q, q ∈ pre → ReadsIn W (fun g => w.heap.size + 3 ≤ g ∧ g < W.heap.size ∧ v.ownBlock ≠ some g) q.1.2 q.1.1.list
theorem AllV.step {w W W' : World} {pre : List El} {v : Value} (h : AllV w pre v W) (hs : StepI (w.heap.size + 2) W W') : AllV w pre v W' := by
  obtain ⟨h1, h2, h3, h4, h5, h6, h7⟩ := h
  obtain ⟨s1, s2⟩ := hs
  refine ⟨h1, h2.kept s1 (by simp), h3.kept s1 ?_, h4.kept s1 (by simp), s2 h5, h6.grown s1 h6.size (fun k e => by cases e; omega), fun q hq => ?_⟩
  · cases hv : v.ownBlock with
    | none => exact .inl rfl
    | some k => exact .inr (fun e => by cases e; have := (h3.ge _ hv).1; omega)
  · refine (h7 q hq).grown s1 (fun r e hr => ?_) (fun g hg => ⟨hg.1, Nat.lt_of_lt_of_le hg.2.1 s1.size, hg.2.2⟩)
    cases e
    have := hr.1
    omega
theorem AllV.row {w W W' : World} {pre : List El} {v : Value} {row : Option Nat} (h : AllV w pre v W) (hg : W.grownBy W' row) (hr : ∀ r, row = some r → w.heap.size + 3 ≤ r ∧ ∃ o : Obj, W.heap[r]? = some o ∧ o.isCells = false) : AllV w pre v W' := by
  obtain ⟨h1, h2, h3, h4, ⟨t, h5⟩, h6, h7⟩ := h
  refine ⟨h1, h2.kept hg (fun e => by have := (hr _ e.symm).1; omega), h3.kept hg ?_, h4.kept hg (fun e => by have := (hr _ e.symm).1; omega), ⟨t, h5.kept hg (fun e => by have := (hr _ e.symm).1; omega)⟩,
    h6.grown hg h6.size (fun k e => by have := (hr _ e).1; omega), fun q hq => ?_⟩
  · cases hv : v.ownBlock with
    | none => exact .inl rfl
    | some k =>
      refine .inr (fun e => ?_)
      obtain ⟨_, o, ho, hc⟩ := hr k e.symm
      obtain ⟨_, ⟨rfl, _⟩ | ⟨g', cap, cur, rfl, _, hgg, _⟩⟩ := h3
      · cases hv
      · cases hv; rw [hgg] at ho; cases ho; cases hc
  · exact (h7 q hq).grown hg (fun r e _ => (hr r e).2) (fun g hg' => ⟨hg'.1, Nat.lt_of_lt_of_le hg'.2.1 hg.size, hg'.2.2⟩)
def AllI (w : World) (pre : List El) (W : World) : Prop := ∃ v, AllV w pre v W
theorem AllI.own (w : World) (B : Nat) (hB : w.heap.size + 3 ≤ B) : OwnFrom B (AllI w) := fun _ _ _ _ ⟨v, h⟩ hg hr => ⟨v, h.row hg (fun r e => ⟨Nat.le_trans hB (hr r e).1, (hr r e).2⟩)⟩
/-- where a round has found that there is none -/
def AllX (w : World) (c : Code) (pre : List El) (W : World) : Prop :=
  c = .exit 0 ∧ (∃ q, q ∈ pre ∧ q.2 = false) ∧ (∃ v, (∃ p n c, v = .slice p n c) ∧ Boxed W w.heap.size 56 v) ∧ Boxed W (w.heap.size + 1) 4 (.bool false) ∧ Below w.heap.size w W
theorem AllX.step {w W W' : World} {c : Code} {pre : List El} (h : AllX w c pre W) (hs : StepI (w.heap.size + 2) W W') : AllX w c pre W' := by
  obtain ⟨h1, h2, ⟨v, hv, h3⟩, h4, h5⟩ := h
  exact ⟨h1, h2, ⟨v, hv, h3.kept hs.1 (by simp)⟩, h4.kept hs.1 (by simp), h5.grown hs.1 h5.size (fun k e => by cases e; omega)⟩
theorem AllX.own (w : World) (c : Code) (B : Nat) (hB : w.heap.size + 3 ≤ B) : OwnFrom B (AllX w c) := fun _ _ _ _ ⟨h1, h2, ⟨v, hv, h3⟩, h4, h5⟩ hg hr =>
  ⟨h1, h2, ⟨v, hv, h3.kept hg (fun e => by have := (hr _ e.symm).1; omega)⟩, h4.kept hg (fun e => by have := (hr _ e.symm).1; omega), h5.grown hg h5.size (fun k e => by have := (hr _ e).1; omega)⟩
/-- a round's variables: the item's box beside -/
def AllB (w : World) (pre : List El) (x : El) (xb : Nat) (W : World) : Prop :=
  ∃ v, AllV w pre v W ∧ w.heap.size + 3 ≤ xb ∧ W.heap[xb]? = some (.cells #[.bool x.1.1.isList, .string ⟨x.1.1.text.toArray⟩, x.1.2] 58 (0, 0)) ∧ (∃ p n c, x.1.2 = .slice p n c) ∧
    (x.2 = true → ReadsIn W (fun g => w.heap.size + 3 ≤ g ∧ g < W.heap.size ∧ v.ownBlock ≠ some g) x.1.2 x.1.1.list)
theorem AllB.own (w : World) (pre : List El) (x : El) (xb : Nat) (B : Nat) (hB : w.heap.size + 3 ≤ B) : OwnFrom B (fun (_ : Unit) W => AllB w pre x xb W) := fun _ W W' row ⟨v, h1, h2, h3, h4, h5⟩ hg hr =>
  ⟨v, h1.row hg (fun r e => ⟨Nat.le_trans hB (hr r e).1, (hr r e).2⟩), h2, by
    rw [hg.block xb (Array.getElem?_eq_some_iff.1 h3).1 (fun e => by obtain ⟨_, o, ho, hc⟩ := hr xb e.symm; rw [h3] at ho; cases ho; cases hc)]
    exact h3, h4, fun hx => (h5 hx).grown hg (fun r e _ => (hr r e).2) (fun g hg' => ⟨hg'.1, Nat.lt_of_lt_of_le hg'.2.1 hg.size, hg'.2.2⟩)⟩
theorem OwnI.readsIn {base : Nat} {w : World} {v : Value} {l : List (Item × Value)} {A : Nat → Prop} (h : OwnI base w v l) (hb : ∀ k, v.ownBlock = some k → A k) (hr : ∀ q, q ∈ l → ReadsIn w A q.2 q.1.list) : ReadsIn w A v (l.map Prod.fst) := by
  have h' := h
  obtain ⟨_, ⟨rfl, hn⟩ | ⟨g, cap, cur, rfl, _, hg, hcap, _⟩⟩ := h
  · obtain rfl : l = [] := List.length_eq_zero_iff.1 hn
    exact ReadsIn.nil _ _
  · have hm : (l.map Prod.fst).length = l.length := by simp
    rw [← hm]
    refine ReadsIn.mk (hb g rfl) (fun i x hx => ?_) (by rw [hm]; exact hcap)
    rw [List.getElem?_map] at hx
    cases hq : l[i]? with
    | none => rw [hq] at hx; cases hx
    | some q =>
      rw [hq] at hx
      cases hx
      have hi := (List.getElem?_eq_some_iff.1 hq).1
      have hc := fun j (hj : j < 3) => World.ownsRow.cellAt h' (i * 3 + j) (by omega)
      refine ⟨?_, ?_, q.2, ?_, hr q (List.mem_of_getElem? hq)⟩
      · have := hc 0 (by omega); rw [itemCells_at l i 0 q hq (by omega)] at this; simpa using this
      · have := hc 1 (by omega); rw [itemCells_at l i 1 q hq (by omega)] at this; simpa using this
      · have := hc 2 (by omega); rw [itemCells_at l i 2 q hq (by omega)] at this; simpa using this
theorem heap_set2 {W : World} {b i k : Nat} {v : Value} (h : k ≠ b) : (W.setCell ⟨b, i, none⟩ v).heap[k]? = W.heap[k]? := Below.heap_setCell W ⟨b, i, none⟩ v k h
theorem grownBy_setCell2 (W : World) (b i : Nat) (v : Value) : W.grownBy (W.setCell ⟨b, i, none⟩ v) (some b) :=
  ⟨rfl, rfl, rfl, by simp, fun k _ hne => Below.heap_setCell W ⟨b, i, none⟩ v k (fun e => hne (by rw [e]))⟩
theorem boxed_far {W : World} {B b i : Nat} {t : TypeId} {v : Value} (h : Boxed W B t v) (hne : B ≠ b) (u : Value) : Boxed (W.setCell ⟨b, i, none⟩ u) B t v := (heap_set2 hne).trans h
theorem cell_ad {W : World} {a : Addr} {u : Value} (o : Obj) (h : W.cell? a = some u) : (W.alloc o).drew.cell? a = some u :=
  (World.cell?_alloc_lt W o a (World.block_lt_of_cell? W a h)).trans h
theorem absurd_false {b : Bool} (ht : b = true) {p : Prop} (h : b = false) : p := by rw [ht] at h; cases h
/-- append of one item, as one step of a region that draws its order -/
theorem step_appendI {ops : Array Oper} {o : Oper} {a : Act} {w : World} {K : Act → World → Prop} {Q : Exit → Act → World → Prop} {E : Prop} (hgd : o.guard = none) (s x : Operand)
    (ho : o.op = .call { callee := .builtin .append, args := #[s, x], argTypes := #[56, 56] })
    (base : Nat) (v : Value) (l : List (Item × Value)) (hs : a.eval s = v) (hown : OwnI base w v l) (ad : Addr) (c : Nat) (q : Item × Value) (hq : ∃ p n c, q.2 = .slice p n c) (hx : a.eval x = .slice (some ad) 1 c)
    (hnews : ∀ j u, (itemCells [q])[j]? = some u → w.cell? (ad.add j) = some u) (h63 : l.length ≤ 1099511627776) (hbase : base ≤ w.heap.size)
    (hK : ∀ v' w', OwnI base w' v' (l ++ [q]) → w.grownBy w' v.ownBlock → (v'.ownBlock = v.ownBlock ∨ v'.ownBlock = some w.heap.size) → K (a.put o.dst v') w') :
    if Region.wanted o (yielded ops a.tmps) = true then Oper.wp Tryd.prog o a w K Q else E := by
  have hw : Region.wanted o (yielded ops a.tmps) = true := by simp [Region.wanted, hgd]
  rw [if_pos hw]
  obtain ⟨v', w', hrun, r1, r2, r3⟩ := run_appendI hown ad c q hq hnews h63 hbase o.type
  unfold Oper.wp
  simp [execOp, ho, resolve, invoke, builtin, hs, hx, hrun, Result.andThen]
  exact hK v' w' r1 r2 r3
/-- behind a round that appended an item -/
theorem AllV.snoc {w W W' : World} {pre : List El} {x : El} {v v' : Value} {B : Nat} (h : AllV w pre v W) (hB : w.heap.size + 3 ≤ B) (hx2 : x.2 = true) (hrx : ReadsIn W (fun g => w.heap.size + 3 ≤ g ∧ g < W.heap.size ∧ v.ownBlock ≠ some g) x.1.2 x.1.1.list)
    (hl : Boxed W' w.heap.size 56 v') (hown : OwnI (w.heap.size + 3) W' v' (pre.map Prod.fst ++ [x.1])) (hz : W.heap.size ≤ W'.heap.size) (hv : v'.ownBlock = v.ownBlock ∨ ∃ k, v'.ownBlock = some k ∧ W.heap.size ≤ k)
    (hsame : ∀ k, k < W.heap.size → k ≠ w.heap.size → v.ownBlock ≠ some k → W'.heap[k]? = W.heap[k]?) (hb : Below w.heap.size w W') :
    KeepsFrom B W W' ∧ SameBox (w.heap.size + 2) W W' ∧ AllI w (pre ++ [x]) W' := by
  obtain ⟨h1, h2, h3, h4, ⟨t, h5⟩, h6, h7⟩ := h
  have hge := h3.ge
  have hA : ∀ {u : Value} {ys : List Item}, ReadsIn W (fun g => w.heap.size + 3 ≤ g ∧ g < W.heap.size ∧ v.ownBlock ≠ some g) u ys → ReadsIn W' (fun g => w.heap.size + 3 ≤ g ∧ g < W'.heap.size ∧ v'.ownBlock ≠ some g) u ys := fun hr =>
    hr.kept (fun g u o hg hc => (World.cell?_of_block (a := ⟨g, o, none⟩) (hsame g hg.2.1 (by omega) hg.2.2)).trans hc) (fun g hg => ⟨hg.1, Nat.lt_of_lt_of_le hg.2.1 hz, fun e => by
      rcases hv with hv | ⟨k, hk, hk2⟩
      · exact hg.2.2 (hv ▸ e)
      · rw [hk] at e; cases e; omega⟩)
  have s1 : W'.heap[w.heap.size + 1]? = W.heap[w.heap.size + 1]? := hsame _ h4.lt (by omega) (fun e => by have := (hge _ e).1; omega)
  have s2 : W'.heap[w.heap.size + 2]? = W.heap[w.heap.size + 2]? := hsame _ h5.lt (by omega) (fun e => by have := (hge _ e).1; omega)
  refine ⟨⟨hz, fun k o hk ho hc => (hsame k (Array.getElem?_eq_some_iff.1 ho).1 (by omega) (fun e => ?_)).trans ho⟩, s2, v', fun q hq => ?_, hl, by simpa using hown, s1.trans h4, ⟨t, s2.trans h5⟩, hb, fun q hq => ?_⟩
  · obtain ⟨_, ⟨rfl, _⟩ | ⟨g', cap, cur, rfl, _, hgg, _⟩⟩ := h3
    · cases e
    · cases e; rw [hgg] at ho; cases ho; cases hc
  · rcases List.mem_append.1 hq with hq | hq
    · exact h1 q hq
    · simp at hq; rw [hq]; exact hx2
  · rcases List.mem_append.1 hq with hq | hq
    · exact hA (h7 q hq)
    · simp at hq; rw [hq]; exact hA hrx
end Go.Proofs.YthicdhnjincflaaDoor
/- Contract of rlp.all: the items of bytes. -/
namespace Go.Proofs.YthicdhnjincflaaDoor
open Go.RowKit Go.Shelf Go.Lib
attribute [local go_sem] Oper.semAt_some

set_option maxRecDepth 100000 in
set_option maxHeartbeats 6400000 in
theorem all_step' (s : List UInt8) (w : World) (hs : s.length ≤ 1099511627776)
    (hall : ∀ (t : List UInt8) (W : World), t.length < s.length → Calls Tryd.prog 87 #[.string ⟨t.toArray⟩] W fun e W' => AllIs t e W W') :
    Calls Tryd.prog 87 #[.string ⟨s.toArray⟩] w fun e w' => AllIs s e w w' := by
  refine (callsIn_wide (n := 9)).1 ?_
  refine callsIn_of_wp_marks Tryd.func87 rfl trivial ?_ rfl
  simp only [Tryd.ntmps87, List.size_toArray, List.length_cons, List.length_nil, Nat.reduceAdd, Nat.reduceSub, Array.replicate_succ, Array.replicate_zero, List.push_toArray, List.append_toArray, List.nil_append, List.cons_append]
  gi_wp2
  refine wpIn_scope_straight ?_
  gi_wp2
  refine wpIn_label ?_
  gi_wp2_with (refine ⟨trivial, ?_⟩; gi_at_call 116; refine (items_any Fence.wide _ trivial rfl _ _).mono ?_; rintro e w' ⟨rfl, rfl⟩)
  obtain ⟨W0, hW0⟩ : ∃ W0, (((w.alloc (.cells #[.slice none 0 0] 56)).alloc (.cells #[.bool true] 4)).alloc (.cells #[.string ⟨s.toArray⟩] 9)) = W0 := ⟨_, rfl⟩
  have hV0 : AllV w [] (.slice none 0 0) W0 := by
    rw [← hW0]
    have x0 := Boxed.new w 56 (.slice none 0 0)
    have x1 := Boxed.new (w.alloc (.cells #[.slice none 0 0] 56)) 4 (.bool true)
    have x2 := Boxed.new ((w.alloc (.cells #[.slice none 0 0] 56)).alloc (.cells #[.bool true] 4)) 9 (.string ⟨s.toArray⟩)
    simp only [World.size_alloc] at x1 x2
    exact ⟨by simp, (x0.alloc _).alloc _, OwnI.nil _ _, x1.alloc _, ⟨_, x2⟩, (((Below.refl _ w).alloc (Nat.le_refl _) _).alloc (by simp) _).alloc (by simp; omega) _, by simp⟩
  have hbox : Boxed W0 (w.heap.size + 2) 9 (.string ⟨s.toArray⟩) := by
    rw [← hW0]
    have x2 := Boxed.new ((w.alloc (.cells #[.slice none 0 0] 56)).alloc (.cells #[.bool true] 4)) 9 (.string ⟨s.toArray⟩)
    simpa only [World.size_alloc] using x2
  have hs0 : W0.heap.size = w.heap.size + 3 := by rw [← hW0]; simp
  rw [hW0]
  clear hW0
  have hS0 : w.heap.size + 3 ≤ W0.heap.size := by omega
  have Hs0 := Lib.hid hs0
  clear hs0
  refine wpIn_rangeFunc_X rfl (by omega) (gf := 142) (lb := #[.pointer (some ⟨w.heap.size + 1 + 1, 0, none⟩)]) rfl trivial (enters_of Tryd.func142 (by kernel_rfl) rfl)
    (encs := encEl) (Step := StepI (w.heap.size + 2)) (Good := GoodI s.length) (Kp := SameBox (w.heap.size + 2)) (S := doneI s) (Sp := stopI s) (w0 := W0)
    (fun l J Jx W hW _ _ hY h0 => items_body _ (by omega) l (w.heap.size + 2) s hs hall J Jx hY W ((hW.block _ (by omega)).trans hbox) h0)
    (fun h k => k.trans h) (fun W l o o' hl _ _ _ => World.putObj_heap_other (by omega)) (Below.refl _ _) (fun _ => rfl)
    (fun A B k o hst hk hA _ => (hst.1.block k (Array.getElem?_eq_some_iff.1 hA).1 (fun e => by cases e; omega)).trans hA)
    (AllI w) (AllX w)
    (fun pre x a' W => ∃ xb, a' = { tmps := #[.string ⟨s.toArray⟩, undef, .slice none 0 0, .bool false, .pointer (some ⟨w.heap.size, 0, none⟩), .pointer (some ⟨w.heap.size + 1, 0, none⟩), .pointer (some ⟨xb, 0, none⟩), .bool x.2, .string ⟨s.toArray⟩,
      .func (.func 142) #[] #[.pointer (some ⟨w.heap.size + 1 + 1, 0, none⟩)], .agg #[.bool x.1.1.isList, .string ⟨x.1.1.text.toArray⟩, x.1.2], .bool x.2, undef, undef, undef, undef, undef, undef, undef, undef, undef, undef], defers := [] } ∧ AllB w pre x xb W ∧ pre.length < s.length)
    (AllI.own w _ hS0) (fun c => AllX.own w c _ hS0) (fun pre x a' _ W W' row ⟨xb, h1, h2, h3⟩ hg hr => ⟨xb, h1, AllB.own w pre x xb _ hS0 () W W' row h2 hg hr, h3⟩)
    (fun pre A B ⟨v, h⟩ hst => ⟨v, h.step hst⟩) (fun c pre A B h hst => h.step hst) ⟨_, hV0⟩ ?assign ?body ?done ?stop
  case assign =>
    rintro l pre ⟨⟨xi, xv⟩, xo⟩ Wa W K ⟨v, hV⟩ hst ⟨hlt, ⟨p, m, c, hxv⟩, hgood⟩ hK
    dsimp only at hxv hgood
    subst hxv
    have hV2 := hV.step hst
    simp only [encEl]
    gi_wp2
    refine hK _ _ ((KeepsOthers.alloc _ _).from _) (Below.heap_alloc _ _ _ (by obtain ⟨t, ht⟩ := hV2.2.2.2.2.1; exact ht.lt)) ⟨W.heap.size, rfl, ⟨v, ?_, ?_, World.alloc_heap_new _ _, ⟨p, m, c, rfl⟩, fun hx => ?_⟩, hlt⟩
    · exact hV2.row (World.grownBy_alloc W _ none) (fun r e => by cases e)
    · obtain ⟨t, ht⟩ := hV2.2.2.2.2.1
      exact ht.lt
    · refine (hgood hx).grown (World.grownBy_alloc W _ none) (fun r e => by cases e) (fun g hg => ?_)
      obtain ⟨t, ht⟩ := hV.2.2.2.2.1
      have h1 := ht.lt
      refine ⟨by omega, by simp; omega, fun e => ?_⟩
      have := (hV.2.2.1.ge g e).2
      omega
  case body =>
    rintro l pre ⟨⟨xi, xv⟩, xo⟩ a' W hl ⟨r, hr⟩ ⟨xb, rfl, ⟨v, hV, hxb, hx, ⟨p, m, c, hxv⟩, hread⟩, hlx0⟩
    dsimp only at hxv hread hx
    subst hxv
    have HV := Lib.hid hV
    obtain ⟨v1, v2, v3, v4, v5, v6, v7⟩ := hV
    cases xo with
    | false =>
      have c4 := v4.cell
      have f4 := v4.frozen
      clear v1 v2 v3 v4 v5 v6 v7 hread hx
      gi_wp2
      refine ⟨(KeepsOthers.setCell _ _ _).from _, rfl, ⟨((xi, .slice p m c), false), by simp, rfl⟩, ⟨v, HV.out.2.2.1.form.imp fun p h => ⟨_, h.choose, h.choose_spec⟩, HV.out.2.1.other (by omega) _⟩, HV.out.2.2.2.1.set _, HV.out.2.2.2.2.2.1.setCell (p := ⟨_, 0, none⟩) (by show w.heap.size ≤ w.heap.size + 1; omega) _⟩
    | true =>
      obtain ⟨pv, cv, hvv⟩ := v3.form
      rw [List.length_map] at hvv
      subst hvv
      have c0 := v2.cell
      have f0 := v2.frozen
      have q0 : W.cell? ⟨xb, 0, none⟩ = some (.bool xi.isList) := by rw [World.cell?, hx]; rfl
      have q1 : W.cell? ⟨xb, 1, none⟩ = some (.string ⟨xi.text.toArray⟩) := by rw [World.cell?, hx]; rfl
      have q2 : W.cell? ⟨xb, 2, none⟩ = some (.slice p m c) := by rw [World.cell?, hx]; rfl
      clear v1 v2 v4 v5 v6 v7 hx
      gi_wp2
      refine wpIn_round_L (fun L w' => L.getD 4 true = false → (w'.cell? ⟨w.heap.size, 0, none⟩ = some (.slice pv pre.length cv) ∧ w'.cell? ⟨xb, 0, none⟩ = some (.bool xi.isList) ∧ w'.cell? ⟨xb, 1, none⟩ = some (.string ⟨xi.text.toArray⟩) ∧ w'.cell? ⟨xb, 2, none⟩ = some (.slice p m c)))
        (by kernel_rfl) (by kernel_rfl) (fun ⟨_, _, h⟩ => h.elim) ?_
      refine wpAnyL_take (i := 0) (v := .slice pv pre.length cv) (fuel := 7) rfl (by kernel_rfl) (by kernel_rfl) (by kernel_rfl) (by kernel_rfl) (fun _ _ _ h => h) (fun L w' => by rw [getD_set_ne true (by omega)]) (fun _ => ⟨c0, q0, q1, q2⟩) (.inl ⟨by rfl, ?_⟩) ?_
      · rintro w' ⟨L, hcl, h0, hS⟩
        obtain ⟨z0, z1, z2, z3⟩ := hS (closedB_before hcl (i := 0) (by kernel_rfl) h0)
        clear hS hcl h0
        go_simp
      refine wpAnyL_take (i := 1) (v := .agg #[.bool xi.isList, .string ⟨xi.text.toArray⟩, .slice p m c]) (fuel := 6) rfl (by kernel_rfl) (by kernel_rfl) (by kernel_rfl) (by kernel_rfl) (fun _ _ _ h => h) (fun L w' => by rw [getD_set_ne true (by omega)]) (fun _ => ⟨c0, q0, q1, q2⟩) (.inl ⟨by rfl, ?_⟩) ?_
      · rintro w' ⟨L, hcl, h0, hS⟩
        obtain ⟨z0, z1, z2, z3⟩ := hS (closedB_before hcl (i := 1) (by kernel_rfl) h0)
        clear hS hcl h0
        go_simp
      refine wpAnyL_take (i := 2) (v := .int .i64 pre.length) (fuel := 5) rfl (by kernel_rfl) (by kernel_rfl) (by kernel_rfl) (by kernel_rfl) (fun _ _ _ h => h) (fun L w' => by rw [getD_set_ne true (by omega)]) (fun _ => ⟨c0, q0, q1, q2⟩) (.inl ⟨by rfl, ?_⟩) ?_
      · intro w' _
        go_simp
      simp only [Act.put, List.setIfInBounds_toArray]
      refine wpAnyL_one (i := 3) (fuel := 4) (by kernel_rfl) rfl (fun K hK => ?_)
      go_simp
      refine hK.out _ _ (fun _ => ⟨cell_ad _ c0, cell_ad _ q0, cell_ad _ q1, cell_ad _ q2⟩) (fun _ => ?_)
      clear hK K
      have hlx : pre.length ≤ 1099511627776 := by omega
      obtain ⟨W1, hW1⟩ : ∃ W1, (W.alloc (.cells #[.bool false, .string ⟨#[]⟩, .slice none 0 0] 58)).drew = W1 := ⟨_, rfl⟩
      have hown1 : OwnI (w.heap.size + 3) W1 (.slice pv pre.length cv) (pre.map Prod.fst) := by rw [← hW1]; exact v3.alloc _
      have hn1 : ∀ j u, (itemCells [(Item.none, Value.slice none 0 0)])[j]? = some u → W1.cell? ((⟨W.heap.size, 0, none⟩ : Addr).add j) = some u := by rw [← hW1]; exact cells_new W _ _
      have hz1 : W1.heap.size = W.heap.size + 1 := by rw [← hW1]; simp
      have hg1 : ∀ k, k < W.heap.size → W1.heap[k]? = W.heap[k]? := fun k hk => by rw [← hW1]; exact Below.heap_alloc W _ k hk
      have hb1 : Below w.heap.size w W1 := by rw [← hW1]; exact (HV.out.2.2.2.2.2.1.alloc HV.out.2.2.2.2.2.1.size _).drew
      rw [hW1]
      have hbs : w.heap.size + 3 ≤ W1.heap.size := by have := HV.out.2.2.2.2.1.choose_spec.lt; omega
      have Hz1 := Lib.hid hz1
      have Hg1 := Lib.hid hg1
      have Hn1 := Lib.hid hn1
      clear hW1 hz1 hg1 hn1
      refine wpAnyL_one (i := 4) (fuel := 3) (by kernel_rfl) rfl (fun K hK => ?_)
      refine step_appendI (by rfl) (.tmp 14) (.tmp 17) (by rfl) (w.heap.size + 3) (.slice pv pre.length cv) (pre.map Prod.fst) (by rfl) hown1 ⟨W.heap.size, 0, none⟩ 1 (Item.none, .slice none 0 0) ⟨none, 0, 0, rfl⟩ (by rfl) Hn1.out (by rw [List.length_map]; exact hlx) hbs ?_
      intro v' w2 hown2 hg2 hat2
      refine hK.out _ _ (fun h => absurd_false (by kernel_rfl) h) (fun _ => ?_)
      clear hK K
      obtain ⟨g, c', hv', hgB, hgz⟩ := hown2.at_ (by simp)
      rw [List.length_append, List.length_map, List.length_singleton] at hv'
      subst hv'
      simp only [Act.put, List.setIfInBounds_toArray]
      have g1 : (0 : Int) ≤ pre.length := by omega
      have g3 : ¬ ((pre.length : Int) + 1 ≤ (pre.length : Int)) := by omega
      have g2 : (pre.length : Int) < ((pre.length + 1 : Nat) : Int) := by omega
      refine wpAnyL_take (i := 5) (v := .pointer (some ⟨g, pre.length * 3, none⟩)) (fuel := 2) rfl (by kernel_rfl) (by kernel_rfl) (by kernel_rfl) (by kernel_rfl) (fun _ _ _ h => h) (fun L w' => by rw [getD_set_ne true (by omega)]) (fun h => absurd_false (by kernel_rfl) h) (.inl ⟨by rfl, ?_⟩) ?_
      · intro w' _
        go_simp
      simp only [Act.put]
      have HT : (pre.map Prod.fst).length = pre.length := List.length_map ..
      have hz2 := hg2.size
      have hc2 : ∀ i u, i < 3 → [Value.bool false, .string ⟨#[]⟩, .slice none 0 0][i]? = some u → w2.cell? ⟨g, pre.length * 3 + i, none⟩ = some u := fun i u hi hu => by
        have hown2' : w2.ownsRow (w.heap.size + 3) 58 3 (.slice (some ⟨g, 0, none⟩) (pre.length + 1) c') (pre.length + 1) (itemCells (pre.map Prod.fst ++ [(Item.none, Value.slice none 0 0)])) := by
          have := hown2
          unfold OwnI at this
          rw [List.length_append, HT, List.length_singleton] at this
          exact this
        rw [World.ownsRow.cellAt hown2' _ (by omega), itemCells_at _ pre.length i (Item.none, .slice none 0 0) (by rw [List.getElem?_append_right (by omega), HT]; simp) hi]
        exact hu
      have hfz : ∀ i, w2.frozen? ⟨g, i, none⟩ = false := fun i => by
        have hown2' : w2.ownsRow (w.heap.size + 3) 58 3 (.slice (some ⟨g, 0, none⟩) (pre.length + 1) c') (pre.length + 1) (itemCells (pre.map Prod.fst ++ [(Item.none, Value.slice none 0 0)])) := by
          have := hown2
          unfold OwnI at this
          rw [List.length_append, HT, List.length_singleton] at this
          exact this
        exact World.ownsRow.frozenAt hown2' i
      have r0 := hc2 0 _ (by omega) rfl
      have r1 := hc2 1 _ (by omega) rfl
      have r2 := hc2 2 _ (by omega) rfl
      rw [Nat.add_zero] at r0
      have z0 := hfz (pre.length * 3)
      have z1 := hfz (pre.length * 3 + 1)
      have z2 := hfz (pre.length * 3 + 2)
      have hvb : ∀ k, (Value.slice pv pre.length cv).ownBlock = some k → w.heap.size + 3 ≤ k := fun k hk => (v3.ge k hk).1
      have hlb : w2.heap[w.heap.size]? = some (.cells #[.slice pv pre.length cv] 56 (0, 0)) := by
        have hlt := HV.out.2.1.lt
        rw [hg2.block w.heap.size (by omega) (fun e => by have := hvb _ e.symm; omega), Hg1.out _ hlt]
        exact HV.out.2.1
      have hlB : Boxed w2 w.heap.size 56 (.slice pv pre.length cv) := hlb
      have d0 := hlB.cell
      have e0 := hlB.frozen
      have n1 : ¬ g = w.heap.size := by omega
      have n2 : ¬ w.heap.size = g := by omega
      clear hc2 hfz
      have hkg : ∀ k, k < W.heap.size → (Value.slice pv pre.length cv).ownBlock ≠ some k → k ≠ g := fun k hk hne e => by
        subst e
        rcases hat2 with hat2 | hat2
        · exact hne hat2.symm
        · have h1 := Hz1.out
          have h2 : some k = some W1.heap.size := hat2
          cases h2
          omega
      have hsame2 : ∀ k, k < W.heap.size → (Value.slice pv pre.length cv).ownBlock ≠ some k → w2.heap[k]? = W.heap[k]? := fun k hk hne =>
        (hg2.block k (by have := Hz1.out; omega) (fun e => hne e.symm)).trans (Hg1.out k hk)
      have hvn : (Value.slice (some ⟨g, 0, none⟩) (pre.length + 1) c').ownBlock = (Value.slice pv pre.length cv).ownBlock ∨ ∃ k, (Value.slice (some ⟨g, 0, none⟩) (pre.length + 1) c').ownBlock = some k ∧ W.heap.size ≤ k := by
        rcases hat2 with hat2 | hat2
        · exact .inl hat2
        · exact .inr ⟨_, hat2, by have := Hz1.out; omega⟩
      have hb2 : Below w.heap.size w w2 := hb1.grown hg2 hb1.size (fun k e => by have := hvb _ e; omega)
      have hwg : w.heap.size ≤ g := by omega
      have Hkg := Lib.hid hkg
      have Hsame := Lib.hid hsame2
      have Hvn := Lib.hid hvn
      clear hkg hsame2 hvn hvb hlb
      refine wpAnyL_two (i := 6) (j := 7) (fuel := 1) (by kernel_rfl) rfl rfl (fun K hK => ?_) (fun K hK => ?_)
      · go_simp
        refine hK.out _ _ (fun h => absurd_false (by kernel_rfl) h) (fun _ => ?_)
        clear hK K
        refine wpAnyL_one (i := 7) (fuel := 0) (by kernel_rfl) rfl (fun K hK => ?_)
        go_simp
        refine hK.out _ _ (fun h => absurd_false (by kernel_rfl) h) (fun _ => ?_)
        clear hK K
        refine wpAnyL_done (by kernel_rfl) ?_ 0
        have hL := OwnI.last hown2 (xi, .slice p m c)
        rw [HT] at hL
        show KeepsFrom _ _ _ ∧ SameBox _ _ _ ∧ AllI _ _ _
        refine AllV.snoc HV.out hS0 rfl (hread trivial) ?_ (OwnI.kept hL.1 (grownBy_setCell' _ _ _) (.inr (fun e => by cases e; exact n1 rfl))) ?_ Hvn.out ?_ ?_
        · exact (boxed_far (boxed_far (boxed_far hlB n2 _) n2 _) n2 _).set _
        · simp; have := Hz1.out; omega
        · intro k hk h1 h2
          have h3 := Hkg.out k hk h2
          exact (heap_set2 h1).trans ((heap_set2 h3).trans ((heap_set2 h3).trans ((heap_set2 h3).trans (Hsame.out k hk h2))))
        · exact (((hb2.setCell (p := ⟨g, _, none⟩) hwg _).setCell (p := ⟨g, _, none⟩) hwg _).setCell (p := ⟨g, _, none⟩) hwg _).setCell (p := ⟨w.heap.size, 0, none⟩) (Nat.le_refl _) _
      · go_simp
        refine hK.out _ _ (fun h => absurd_false (by kernel_rfl) h) (fun _ => ?_)
        clear hK K
        refine wpAnyL_one (i := 6) (fuel := 0) (by kernel_rfl) rfl (fun K hK => ?_)
        go_simp
        refine hK.out _ _ (fun h => absurd_false (by kernel_rfl) h) (fun _ => ?_)
        clear hK K
        refine wpAnyL_done (by kernel_rfl) ?_ 0
        have hL := OwnI.last (OwnI.kept hown2 (grownBy_setCell' w2 w.heap.size (.slice (some ⟨g, 0, none⟩) (pre.length + 1) c')) (.inr (fun e => by cases e; exact n1 rfl))) (xi, .slice p m c)
        rw [HT] at hL
        show KeepsFrom _ _ _ ∧ SameBox _ _ _ ∧ AllI _ _ _
        refine AllV.snoc HV.out hS0 rfl (hread trivial) ?_ hL.1 ?_ Hvn.out ?_ ?_
        · exact boxed_far (boxed_far (boxed_far (hlB.set _) n2 _) n2 _) n2 _
        · simp; have := Hz1.out; omega
        · intro k hk h1 h2
          have h3 := Hkg.out k hk h2
          exact (heap_set2 h3).trans ((heap_set2 h3).trans ((heap_set2 h3).trans ((heap_set2 h1).trans (Hsame.out k hk h2))))
        · exact (((hb2.setCell (p := ⟨w.heap.size, 0, none⟩) (Nat.le_refl _) _).setCell (p := ⟨g, _, none⟩) hwg _).setCell (p := ⟨g, _, none⟩) hwg _).setCell (p := ⟨g, _, none⟩) hwg _
  case done =>
    rintro D xs W hD hS ⟨v, hV⟩ hK
    obtain ⟨v1, v2, v3, v4, v5, v6, v7⟩ := hV
    obtain ⟨pv, cv, hvv⟩ := v3.form
    rw [List.length_map] at hvv
    subst hvv
    have hitems := hS v1
    have c0 := v2.cell
    have c1 := v4.cell
    have HI := Lib.hid hitems
    have H3 := Lib.hid v3
    have H7 := Lib.hid v7
    clear v1 v2 v4 v5 v3 v7 hS hitems
    gi_wp2
    refine wpIn_wide.2 ?_
    go_quiet (fail)
    gi_wp2
    have hK' : (W.drewN nq).heap[D]? = some (.deferred (some [])) := by rw [World.heap_drewN]; exact hK
    have hDz : D < W.heap.size := (Array.getElem?_eq_some_iff.1 hK).1
    have hg := grownBy_putObj' (W.drewN nq) D (.deferred none)
    have hR : ReadsIn ((W.drewN nq).putObj D (.deferred none)) (fun g => w.heap.size ≤ g ∧ g < ((W.drewN nq).putObj D (.deferred none)).heap.size) (.slice pv xs.length cv) (itemsOf xs) := by
      have h1 : ReadsIn W (fun g => w.heap.size ≤ g ∧ g < W.heap.size) (.slice pv xs.length cv) ((xs.map Prod.fst).map Prod.fst) :=
        OwnI.readsIn H3.out (fun k hk => by have := H3.out.ge k hk; exact ⟨by omega, this.2⟩) (fun q hq => by
          obtain ⟨x, hx, rfl⟩ := List.mem_map.1 hq
          exact (H7.out x hx).mono (fun g hg => ⟨by omega, hg.2.1⟩))
      have e1 : (xs.map Prod.fst).map Prod.fst = itemsOf xs := by simp [itemsOf]
      rw [e1] at h1
      have h2 : ReadsIn (W.drewN nq) (fun g => w.heap.size ≤ g ∧ g < W.heap.size) (.slice pv xs.length cv) (itemsOf xs) := h1.kept (fun _ _ _ _ hc => hc) (fun _ hg => hg)
      refine h2.grown hg (fun r e _ => by cases e; exact ⟨_, hK', rfl⟩) (fun g hg => ⟨hg.1, by simp; exact hg.2⟩)
    have hln : (itemsOf xs).length = xs.length := by simp [itemsOf]
    rw [← hln] at hR
    refine ⟨by simp, .inl ⟨_, _, rfl, run_takeDeferred hK', ?_⟩⟩
    refine ⟨_, results_tmp2 rfl _ _ _, (Below.drewN v6 _).trans (belowK_b (w := w) (Nat.le_refl _) (W.drewN nq) D _ _ (by omega) hK' rfl rfl), .inl ⟨itemsOf xs, pv, cv, ?_, HI, Lib.hid hR⟩⟩
    rw [hln]
    rfl
  case stop =>
    rintro D c pre W hD hSp ⟨rfl, hq, ⟨v, ⟨p, m, cp, rfl⟩, hl⟩, hg, hB⟩ hK
    have hnone := hSp hq
    have c0 := hl.cell
    have c1 := hg.cell
    have HI := Lib.hid hnone
    clear hnone hSp hq hl hg
    gi_wp2
    refine wpIn_wide.2 ?_
    go_quiet (fail)
    gi_wp2
    have hK' : (W.drewN nq).heap[D]? = some (.deferred (some [])) := by rw [World.heap_drewN]; exact hK
    refine ⟨by simp, .inl ⟨_, _, rfl, run_takeDeferred hK', ?_⟩⟩
    exact ⟨_, results_tmp2 rfl _ _ _, (Below.drewN hB _).trans (belowK_b (w := w) (Nat.le_refl _) (W.drewN nq) D _ _ (by omega) hK' rfl rfl), .inr ⟨p, m, cp, rfl, HI⟩⟩

theorem all_any (N : Nat) : ∀ (s : List UInt8) (w : World), s.length ≤ N → s.length ≤ 1099511627776 → Calls Tryd.prog 87 #[.string ⟨s.toArray⟩] w fun e w' => AllIs s e w w' := by
  induction N with
  | zero => exact fun s w hN hs => all_step' s w hs (fun t W ht => absurd ht (by omega))
  | succ N ih => exact fun s w hN hs => all_step' s w hs (fun t W ht => ih t W (by omega) (by omega))
end Go.Proofs.YthicdhnjincflaaDoor
