/- What the walks take: AllB, DecA, ShoT, TakB, TxtS, ApT, DecN. -/
import Derived.Test.YthicdhnjincflaaGreatDoorU0
import Derived.Test.YthicdhnjincflaaGreatDoorU9
import Derived.Test.YthicdhnjincflaaGreatDoorU12
import Derived.Test.YthicdhnjincflaaGreatDoorU13
import Derived.Maps.AppendAt
import Derived.Deep.AppendLies
import Derived.Outline
import Derived.Deep.RegionHeld3
namespace Go.Proofs.YthicdhnjincflaaGreatDoor
open Go.RowKit Go.Shelf Go.Lib
theorem infoItem : (Tryz.prog.info? 46).map (fun i => (i.zero, i.size, i.bytes)) = some (some (.agg #[.bool false, .string ⟨#[]⟩, .slice none 0 0]), 3, 48) := by kernel_rfl
theorem OwnI.at_ {base : Nat} {w : World} {v : Value} {l : List (Item × Value)} (h : OwnI base w v l) (hl : 0 < l.length) : ∃ g c, v = .slice (some ⟨g, 0, none⟩) l.length c ∧ base ≤ g ∧ g < w.heap.size := by
  obtain ⟨g, c, hv, h1, h2⟩ := World.ownsRow.form h hl
  exact ⟨g, c, hv, h1, h2⟩
theorem OwnI.form {base : Nat} {w : World} {v : Value} {l : List (Item × Value)} (h : OwnI base w v l) : ∃ p c, v = .slice p l.length c := by
  obtain ⟨_, ⟨rfl, h0⟩ | ⟨g, cap, cur, rfl, _⟩⟩ := h
  · exact ⟨none, 0, by rw [h0]⟩
  · exact ⟨_, _, rfl⟩
theorem OwnI.ge {base : Nat} {w : World} {v : Value} {l : List (Item × Value)} (h : OwnI base w v l) : ∀ k, v.ownBlock = some k → base ≤ k ∧ k < w.heap.size := World.ownsRow.lt h
theorem OwnI.kept {base : Nat} {w w' : World} {row : Option Nat} {v : Value} {l : List (Item × Value)} (h : OwnI base w v l) (hg : w.grownBy w' row) (hne : v.ownBlock = none ∨ v.ownBlock ≠ row) : OwnI base w' v l := World.ownsRow.kept h hg hne
theorem OwnI.alloc {base : Nat} {w : World} {v : Value} {l : List (Item × Value)} (h : OwnI base w v l) (o : Obj) : OwnI base (w.alloc o) v l := World.ownsRow.alloc h o
theorem run_appendI {base : Nat} {w : World} {v : Value} {l : List (Item × Value)} (hown : OwnI base w v l) (ad : Addr) (c : Nat) (q : Item × Value) (hq : ∃ p n c, q.2 = .slice p n c)
    (hnews : ∀ j u, (itemCells [q])[j]? = some u → w.cell? (ad.add j) = some u) (h63 : l.length ≤ 1099511627776) (hbase : base ≤ w.heap.size) (ty : TypeId) :
    ∃ v' w', (Builtin.append_ #[44, 44] ty #[v, .slice (some ad) 1 c]).run Tryz.prog w = .ok v' w' ∧ OwnI base w' v' (l ++ [q]) ∧ w.grownBy w' v.ownBlock ∧ (v'.ownBlock = v.ownBlock ∨ v'.ownBlock = some w.heap.size) := by
  obtain ⟨i0, hi0, hz0, hz1, hz2⟩ := info_parts infoItem
  obtain ⟨p, n, cq, hqv⟩ := hq
  obtain ⟨v', w', hr, h1, h2, _, h3⟩ := run_append_own_at (P := Tryz.prog) w base 44 ty 46 i0 _ 3 48 Tryz.underlying44 hi0 hz0 hz1 hz2 rfl (by omega) v l.length (itemCells l) hown ad 1 c (itemCells [q]) (by rw [itemCells_length]; simp) hnews
    (fun u hu => by simp only [itemCells, List.flatMap_cons, List.flatMap_nil, List.append_nil, List.mem_cons, List.not_mem_nil, or_false, hqv] at hu; rcases hu with rfl | rfl | rfl <;> rfl) (by unfold maxLen; omega) (by omega) hbase
  refine ⟨v', w', hr, ?_, h2, h3⟩
  unfold OwnI
  rw [itemCells_append, List.length_append]
  exact h1
theorem OwnI.last {base g n c : Nat} {w : World} {l : List (Item × Value)} {q : Item × Value} (h : OwnI base w (.slice (some ⟨g, 0, none⟩) n c) (l ++ [q])) (q' : Item × Value) :
    OwnI base (((w.setCell ⟨g, l.length * 3, none⟩ (.bool q'.1.isList)).setCell ⟨g, l.length * 3 + 1, none⟩ (.string ⟨q'.1.text.toArray⟩)).setCell ⟨g, l.length * 3 + 2, none⟩ q'.2) (.slice (some ⟨g, 0, none⟩) n c) (l ++ [q']) ∧
    w.grownBy (((w.setCell ⟨g, l.length * 3, none⟩ (.bool q'.1.isList)).setCell ⟨g, l.length * 3 + 1, none⟩ (.string ⟨q'.1.text.toArray⟩)).setCell ⟨g, l.length * 3 + 2, none⟩ q'.2) (some g) := by
  obtain ⟨p, c', hv⟩ := OwnI.form h
  obtain rfl : n = (l ++ [q]).length := by cases hv; rfl
  have h1 := World.ownsRow.stored h (l.length * 3) (.bool q'.1.isList)
  have h2 := World.ownsRow.stored h1.1 (l.length * 3 + 1) (.string ⟨q'.1.text.toArray⟩)
  have h3 := World.ownsRow.stored h2.1 (l.length * 3 + 2) q'.2
  have e : (((itemCells (l ++ [q])).set (l.length * 3) (.bool q'.1.isList)).set (l.length * 3 + 1) (.string ⟨q'.1.text.toArray⟩)).set (l.length * 3 + 2) q'.2 = itemCells (l ++ [q']) := by
    have hl := itemCells_length l
    rw [itemCells_append, itemCells_append, ← hl]
    rw [List.set_append_right _ _ (by omega), List.set_append_right _ _ (by omega), List.set_append_right _ _ (by omega)]
    simp [itemCells, Nat.add_sub_cancel_left]
  rw [e] at h3
  refine ⟨?_, (h1.2.trans h2.2).trans h3.2⟩
  unfold OwnI
  have e2 : (l ++ [q']).length = (l ++ [q]).length := by simp
  rw [e2]
  exact h3.1
theorem ReadsIn.grown {w w' : World} {A A' : Nat → Prop} {v : Value} {xs : List Item} {row : Option Nat} (h : ReadsIn w A v xs) (hg : w.grownBy w' row)
    (hr : ∀ r, row = some r → A r → ∃ o : Obj, w.heap[r]? = some o ∧ o.isCells = false) (hA : ∀ g, A g → A' g) : ReadsIn w' A' v xs :=
  h.kept (fun g u o hg' hc => by
    obtain ⟨ob, ho, hcl⟩ := cells_of_cell hc
    have hb := hg.block g (Array.getElem?_eq_some_iff.1 ho).1 (fun e => by
      obtain ⟨ob', ho', hcl'⟩ := hr g e.symm hg'
      have ho2 : w.heap[g]? = some ob := ho
      rw [ho2] at ho'; cases ho'; rw [hcl] at hcl'; cases hcl')
    exact (World.cell?_of_block (a := ⟨g, o, none⟩) hb).trans hc) hA
def AllV (w : World) (pre : List El) (v : Value) (W : World) : Prop :=
  (∀ q, q ∈ pre → q.2 = true) ∧ Boxed W w.heap.size 44 v ∧ OwnI (w.heap.size + 3) W v (pre.map Prod.fst) ∧ Boxed W (w.heap.size + 1) 4 (.bool true) ∧
    (∃ t, Boxed W (w.heap.size + 2) 9 (.string t)) ∧ Below w.heap.size w W ∧
    ∀ q, q ∈ pre → ReadsIn W (fun g => w.heap.size + 3 ≤ g ∧ g < W.heap.size ∧ v.ownBlock ≠ some g) q.1.2 q.1.1.list
theorem AllV.step {w W W' : World} {pre : List El} {v : Value} (h : AllV w pre v W) (hs : StepI (w.heap.size + 2) W W') : AllV w pre v W' := by
  obtain ⟨h1, h2, h3, h4, h5, h6, h7⟩ := h
  obtain ⟨s1, s2⟩ := hs
  refine ⟨h1, h2.kept s1 (by simp), h3.kept s1 ?_, h4.kept s1 (by simp), s2 h5, h6.grown s1 h6.size (fun k e => by cases e; omega), fun q hq => ?_⟩
  · cases hv : v.ownBlock with
    | none => exact .inl rfl
    | some k => exact .inr (fun e => by cases e; have := (h3.ge _ hv).1; omega)
  · refine (h7 q hq).grown s1 (fun r e hr => ?_) (fun g hg => ⟨hg.1, Nat.lt_of_lt_of_le hg.2.1 s1.size, hg.2.2⟩)
    cases e
    have := hr.1
    omega
theorem AllV.row {w W W' : World} {pre : List El} {v : Value} {row : Option Nat} (h : AllV w pre v W) (hg : W.grownBy W' row) (hr : ∀ r, row = some r → w.heap.size + 3 ≤ r ∧ ∃ o : Obj, W.heap[r]? = some o ∧ o.isCells = false) : AllV w pre v W' := by
  obtain ⟨h1, h2, h3, h4, ⟨t, h5⟩, h6, h7⟩ := h
  refine ⟨h1, h2.kept hg (fun e => by have := (hr _ e.symm).1; omega), h3.kept hg ?_, h4.kept hg (fun e => by have := (hr _ e.symm).1; omega), ⟨t, h5.kept hg (fun e => by have := (hr _ e.symm).1; omega)⟩,
    h6.grown hg h6.size (fun k e => by have := (hr _ e).1; omega), fun q hq => ?_⟩
  · cases hv : v.ownBlock with
    | none => exact .inl rfl
    | some k =>
      refine .inr (fun e => ?_)
      obtain ⟨_, o, ho, hc⟩ := hr k e.symm
      obtain ⟨_, ⟨rfl, _⟩ | ⟨g', cap, cur, rfl, _, hgg, _⟩⟩ := h3
      · cases hv
      · cases hv; rw [hgg] at ho; cases ho; cases hc
  · exact (h7 q hq).grown hg (fun r e _ => (hr r e).2) (fun g hg' => ⟨hg'.1, Nat.lt_of_lt_of_le hg'.2.1 hg.size, hg'.2.2⟩)
def AllI (w : World) (pre : List El) (W : World) : Prop := ∃ v, AllV w pre v W
theorem AllI.own (w : World) (B : Nat) (hB : w.heap.size + 3 ≤ B) : OwnFrom B (AllI w) := fun _ _ _ _ ⟨v, h⟩ hg hr => ⟨v, h.row hg (fun r e => ⟨Nat.le_trans hB (hr r e).1, (hr r e).2⟩)⟩
def AllX (w : World) (c : Code) (pre : List El) (W : World) : Prop :=
  c = .exit 0 ∧ (∃ q, q ∈ pre ∧ q.2 = false) ∧ (∃ v, (∃ p n c, v = .slice p n c) ∧ Boxed W w.heap.size 44 v) ∧ Boxed W (w.heap.size + 1) 4 (.bool false) ∧ Below w.heap.size w W
theorem AllX.step {w W W' : World} {c : Code} {pre : List El} (h : AllX w c pre W) (hs : StepI (w.heap.size + 2) W W') : AllX w c pre W' := by
  obtain ⟨h1, h2, ⟨v, hv, h3⟩, h4, h5⟩ := h
  exact ⟨h1, h2, ⟨v, hv, h3.kept hs.1 (by simp)⟩, h4.kept hs.1 (by simp), h5.grown hs.1 h5.size (fun k e => by cases e; omega)⟩
theorem AllX.own (w : World) (c : Code) (B : Nat) (hB : w.heap.size + 3 ≤ B) : OwnFrom B (AllX w c) := fun _ _ _ _ ⟨h1, h2, ⟨v, hv, h3⟩, h4, h5⟩ hg hr =>
  ⟨h1, h2, ⟨v, hv, h3.kept hg (fun e => by have := (hr _ e.symm).1; omega)⟩, h4.kept hg (fun e => by have := (hr _ e.symm).1; omega), h5.grown hg h5.size (fun k e => by have := (hr _ e).1; omega)⟩
def AllB (w : World) (pre : List El) (x : El) (xb : Nat) (W : World) : Prop :=
  ∃ v, AllV w pre v W ∧ w.heap.size + 3 ≤ xb ∧ W.heap[xb]? = some (.cells #[.bool x.1.1.isList, .string ⟨x.1.1.text.toArray⟩, x.1.2] 46 (0, 0)) ∧ (∃ p n c, x.1.2 = .slice p n c) ∧
    (x.2 = true → ReadsIn W (fun g => w.heap.size + 3 ≤ g ∧ g < W.heap.size ∧ v.ownBlock ≠ some g) x.1.2 x.1.1.list)
theorem AllB.own (w : World) (pre : List El) (x : El) (xb : Nat) (B : Nat) (hB : w.heap.size + 3 ≤ B) : OwnFrom B (fun (_ : Unit) W => AllB w pre x xb W) := fun _ W W' row ⟨v, h1, h2, h3, h4, h5⟩ hg hr =>
  ⟨v, h1.row hg (fun r e => ⟨Nat.le_trans hB (hr r e).1, (hr r e).2⟩), h2, by
    rw [hg.block xb (Array.getElem?_eq_some_iff.1 h3).1 (fun e => by obtain ⟨_, o, ho, hc⟩ := hr xb e.symm; rw [h3] at ho; cases ho; cases hc)]
    exact h3, h4, fun hx => (h5 hx).grown hg (fun r e _ => (hr r e).2) (fun g hg' => ⟨hg'.1, Nat.lt_of_lt_of_le hg'.2.1 hg.size, hg'.2.2⟩)⟩
theorem OwnI.readsIn {base : Nat} {w : World} {v : Value} {l : List (Item × Value)} {A : Nat → Prop} (h : OwnI base w v l) (hb : ∀ k, v.ownBlock = some k → A k) (hr : ∀ q, q ∈ l → ReadsIn w A q.2 q.1.list) : ReadsIn w A v (l.map Prod.fst) := by
  have h' := h
  obtain ⟨_, ⟨rfl, hn⟩ | ⟨g, cap, cur, rfl, _, hg, hcap, _⟩⟩ := h
  · obtain rfl : l = [] := List.length_eq_zero_iff.1 hn
    exact ReadsIn.nil _ _
  · have hm : (l.map Prod.fst).length = l.length := by simp
    rw [← hm]
    refine ReadsIn.mk (hb g rfl) (fun i x hx => ?_) (by rw [hm]; exact hcap)
    rw [List.getElem?_map] at hx
    cases hq : l[i]? with
    | none => rw [hq] at hx; cases hx
    | some q =>
      rw [hq] at hx
      cases hx
      have hi := (List.getElem?_eq_some_iff.1 hq).1
      have hc := fun j (hj : j < 3) => World.ownsRow.cellAt h' (i * 3 + j) (by omega)
      refine ⟨?_, ?_, q.2, ?_, hr q (List.mem_of_getElem? hq)⟩
      · have := hc 0 (by omega); rw [itemCells_at l i 0 q hq (by omega)] at this; simpa using this
      · have := hc 1 (by omega); rw [itemCells_at l i 1 q hq (by omega)] at this; simpa using this
      · have := hc 2 (by omega); rw [itemCells_at l i 2 q hq (by omega)] at this; simpa using this
theorem heap_set2 {W : World} {b i k : Nat} {v : Value} (h : k ≠ b) : (W.setCell ⟨b, i, none⟩ v).heap[k]? = W.heap[k]? := Below.heap_setCell W ⟨b, i, none⟩ v k h
theorem grownBy_setCell2 (W : World) (b i : Nat) (v : Value) : W.grownBy (W.setCell ⟨b, i, none⟩ v) (some b) :=
  ⟨rfl, rfl, rfl, by simp, fun k _ hne => Below.heap_setCell W ⟨b, i, none⟩ v k (fun e => hne (by rw [e]))⟩
theorem boxed_far {W : World} {B b i : Nat} {t : TypeId} {v : Value} (h : Boxed W B t v) (hne : B ≠ b) (u : Value) : Boxed (W.setCell ⟨b, i, none⟩ u) B t v := (heap_set2 hne).trans h
theorem cell_ad {W : World} {a : Addr} {u : Value} (o : Obj) (h : W.cell? a = some u) : (W.alloc o).drew.cell? a = some u :=
  (World.cell?_alloc_lt W o a (World.block_lt_of_cell? W a h)).trans h
theorem absurd_false {b : Bool} (ht : b = true) {p : Prop} (h : b = false) : p := by rw [ht] at h; cases h
theorem step_appendI {ops : Array Oper} {o : Oper} {a : Act} {w : World} {K : Act → World → Prop} {Q : Exit → Act → World → Prop} {E : Prop} (hgd : o.guard = none) (s x : Operand)
    (ho : o.op = .call { callee := .builtin .append, args := #[s, x], argTypes := #[44, 44] })
    (base : Nat) (v : Value) (l : List (Item × Value)) (hs : a.eval s = v) (hown : OwnI base w v l) (ad : Addr) (c : Nat) (q : Item × Value) (hq : ∃ p n c, q.2 = .slice p n c) (hx : a.eval x = .slice (some ad) 1 c)
    (hnews : ∀ j u, (itemCells [q])[j]? = some u → w.cell? (ad.add j) = some u) (h63 : l.length ≤ 1099511627776) (hbase : base ≤ w.heap.size)
    (hK : ∀ v' w', OwnI base w' v' (l ++ [q]) → w.grownBy w' v.ownBlock → (v'.ownBlock = v.ownBlock ∨ v'.ownBlock = some w.heap.size) → K (a.put o.dst v') w') :
    if Region.wanted o (yielded ops a.tmps) = true then Oper.wp Tryz.prog o a w K Q else E := by
  have hw : Region.wanted o (yielded ops a.tmps) = true := by simp [Region.wanted, hgd]
  rw [if_pos hw]
  obtain ⟨v', w', hrun, r1, r2, r3⟩ := run_appendI hown ad c q hq hnews h63 hbase o.type
  unfold Oper.wp
  simp [execOp, ho, resolve, invoke, builtin, hs, hx, hrun, Result.andThen]
  exact hK v' w' r1 r2 r3
theorem AllV.snoc {w W W' : World} {pre : List El} {x : El} {v v' : Value} {B : Nat} (h : AllV w pre v W) (hB : w.heap.size + 3 ≤ B) (hx2 : x.2 = true) (hrx : ReadsIn W (fun g => w.heap.size + 3 ≤ g ∧ g < W.heap.size ∧ v.ownBlock ≠ some g) x.1.2 x.1.1.list)
    (hl : Boxed W' w.heap.size 44 v') (hown : OwnI (w.heap.size + 3) W' v' (pre.map Prod.fst ++ [x.1])) (hz : W.heap.size ≤ W'.heap.size) (hv : v'.ownBlock = v.ownBlock ∨ ∃ k, v'.ownBlock = some k ∧ W.heap.size ≤ k)
    (hsame : ∀ k, k < W.heap.size → k ≠ w.heap.size → v.ownBlock ≠ some k → W'.heap[k]? = W.heap[k]?) (hb : Below w.heap.size w W') :
    KeepsFrom B W W' ∧ SameBox (w.heap.size + 2) W W' ∧ AllI w (pre ++ [x]) W' := by
  obtain ⟨h1, h2, h3, h4, ⟨t, h5⟩, h6, h7⟩ := h
  have hge := h3.ge
  have hA : ∀ {u : Value} {ys : List Item}, ReadsIn W (fun g => w.heap.size + 3 ≤ g ∧ g < W.heap.size ∧ v.ownBlock ≠ some g) u ys → ReadsIn W' (fun g => w.heap.size + 3 ≤ g ∧ g < W'.heap.size ∧ v'.ownBlock ≠ some g) u ys := fun hr =>
    hr.kept (fun g u o hg hc => (World.cell?_of_block (a := ⟨g, o, none⟩) (hsame g hg.2.1 (by omega) hg.2.2)).trans hc) (fun g hg => ⟨hg.1, Nat.lt_of_lt_of_le hg.2.1 hz, fun e => by
      rcases hv with hv | ⟨k, hk, hk2⟩
      · exact hg.2.2 (hv ▸ e)
      · rw [hk] at e; cases e; omega⟩)
  have s1 : W'.heap[w.heap.size + 1]? = W.heap[w.heap.size + 1]? := hsame _ h4.lt (by omega) (fun e => by have := (hge _ e).1; omega)
  have s2 : W'.heap[w.heap.size + 2]? = W.heap[w.heap.size + 2]? := hsame _ h5.lt (by omega) (fun e => by have := (hge _ e).1; omega)
  refine ⟨⟨hz, fun k o hk ho hc => (hsame k (Array.getElem?_eq_some_iff.1 ho).1 (by omega) (fun e => ?_)).trans ho⟩, s2, v', fun q hq => ?_, hl, by simpa using hown, s1.trans h4, ⟨t, s2.trans h5⟩, hb, fun q hq => ?_⟩
  · obtain ⟨_, ⟨rfl, _⟩ | ⟨g', cap, cur, rfl, _, hgg, _⟩⟩ := h3
    · cases e
    · cases e; rw [hgg] at ho; cases ho; cases hc
  · rcases List.mem_append.1 hq with hq | hq
    · exact h1 q hq
    · simp at hq; rw [hq]; exact hx2
  · rcases List.mem_append.1 hq with hq | hq
    · exact hA (h7 q hq)
    · simp at hq; rw [hq]; exact hA hrx
end Go.Proofs.YthicdhnjincflaaGreatDoor
/- Contract of rlp.all: the items of bytes. -/
namespace Go.Proofs.YthicdhnjincflaaGreatDoor
open Go.RowKit Go.Shelf Go.Lib
attribute [local go_sem] Oper.semAt_some
set_option maxRecDepth 100000 in
set_option maxHeartbeats 6400000 in
theorem all_step' (s : List UInt8) (w : World) (hs : s.length ≤ 1099511627776)
    (hall : ∀ (t : List UInt8) (W : World), t.length < s.length → Calls Tryz.prog 77 #[.string ⟨t.toArray⟩] W fun e W' => AllIs t e W W') :
    Calls Tryz.prog 77 #[.string ⟨s.toArray⟩] w fun e w' => AllIs s e w w' := by
  refine (callsIn_wide (n := 9)).1 ?_
  refine callsIn_of_wp_marks Tryz.func77 rfl trivial ?_ rfl
  simp only [Tryz.ntmps77, List.size_toArray, List.length_cons, List.length_nil, Nat.reduceAdd, Nat.reduceSub, Array.replicate_succ, Array.replicate_zero, List.push_toArray, List.append_toArray, List.nil_append, List.cons_append]
  gi_wp2
  refine wpIn_scope_straight ?_
  gi_wp2
  refine wpIn_label ?_
  gi_wp2_with (refine ⟨trivial, ?_⟩; gi_at_call 100; refine (items_any Fence.wide _ trivial rfl _ _).mono ?_; rintro e w' ⟨rfl, rfl⟩)
  obtain ⟨W0, hW0⟩ : ∃ W0, (((w.alloc (.cells #[.slice none 0 0] 44)).alloc (.cells #[.bool true] 4)).alloc (.cells #[.string ⟨s.toArray⟩] 9)) = W0 := ⟨_, rfl⟩
  have hV0 : AllV w [] (.slice none 0 0) W0 := by
    rw [← hW0]
    have x0 := Boxed.new w 44 (.slice none 0 0)
    have x1 := Boxed.new (w.alloc (.cells #[.slice none 0 0] 44)) 4 (.bool true)
    have x2 := Boxed.new ((w.alloc (.cells #[.slice none 0 0] 44)).alloc (.cells #[.bool true] 4)) 9 (.string ⟨s.toArray⟩)
    simp only [World.size_alloc] at x1 x2
    exact ⟨by simp, (x0.alloc _).alloc _, OwnI.nil _ _, x1.alloc _, ⟨_, x2⟩, (((Below.refl _ w).alloc (Nat.le_refl _) _).alloc (by simp) _).alloc (by simp; omega) _, by simp⟩
  have hbox : Boxed W0 (w.heap.size + 2) 9 (.string ⟨s.toArray⟩) := by
    rw [← hW0]
    have x2 := Boxed.new ((w.alloc (.cells #[.slice none 0 0] 44)).alloc (.cells #[.bool true] 4)) 9 (.string ⟨s.toArray⟩)
    simpa only [World.size_alloc] using x2
  have hs0 : W0.heap.size = w.heap.size + 3 := by rw [← hW0]; simp
  rw [hW0]
  clear hW0
  have hS0 : w.heap.size + 3 ≤ W0.heap.size := by omega
  have Hs0 := Lib.hid hs0
  clear hs0
  refine wpIn_rangeFunc_X rfl (by omega) (gf := 120) (lb := #[.pointer (some ⟨w.heap.size + 1 + 1, 0, none⟩)]) rfl trivial (enters_of Tryz.func120 (by kernel_rfl) rfl)
    (encs := encEl) (Step := StepI (w.heap.size + 2)) (Good := GoodI s.length) (Kp := SameBox (w.heap.size + 2)) (S := doneI s) (Sp := stopI s) (w0 := W0)
    (fun l J Jx W hW _ _ hY h0 => items_body _ (by omega) l (w.heap.size + 2) s hs hall J Jx hY W ((hW.block _ (by omega)).trans hbox) h0)
    (fun h k => k.trans h) (fun W l o o' hl _ _ _ => World.putObj_heap_other (by omega)) (Below.refl _ _) (fun _ => rfl)
    (fun A B k o hst hk hA _ => (hst.1.block k (Array.getElem?_eq_some_iff.1 hA).1 (fun e => by cases e; omega)).trans hA)
    (AllI w) (AllX w)
    (fun pre x a' W => ∃ xb, a' = { tmps := #[.string ⟨s.toArray⟩, undef, .slice none 0 0, .bool false, .pointer (some ⟨w.heap.size, 0, none⟩), .pointer (some ⟨w.heap.size + 1, 0, none⟩), .pointer (some ⟨xb, 0, none⟩), .bool x.2, .string ⟨s.toArray⟩,
      .func (.func 120) #[] #[.pointer (some ⟨w.heap.size + 1 + 1, 0, none⟩)], .agg #[.bool x.1.1.isList, .string ⟨x.1.1.text.toArray⟩, x.1.2], .bool x.2, undef, undef, undef, undef, undef, undef, undef, undef, undef, undef], defers := [] } ∧ AllB w pre x xb W ∧ pre.length < s.length)
    (AllI.own w _ hS0) (fun c => AllX.own w c _ hS0) (fun pre x a' _ W W' row ⟨xb, h1, h2, h3⟩ hg hr => ⟨xb, h1, AllB.own w pre x xb _ hS0 () W W' row h2 hg hr, h3⟩)
    (fun pre A B ⟨v, h⟩ hst => ⟨v, h.step hst⟩) (fun c pre A B h hst => h.step hst) ⟨_, hV0⟩ ?assign ?body ?done ?stop
  case assign =>
    rintro l pre ⟨⟨xi, xv⟩, xo⟩ Wa W K ⟨v, hV⟩ hst ⟨hlt, ⟨p, m, c, hxv⟩, hgood⟩ hK
    dsimp only at hxv hgood
    subst hxv
    have hV2 := hV.step hst
    simp only [encEl]
    gi_wp2
    refine hK _ _ ((KeepsOthers.alloc _ _).from _) (Below.heap_alloc _ _ _ (by obtain ⟨t, ht⟩ := hV2.2.2.2.2.1; exact ht.lt)) ⟨W.heap.size, rfl, ⟨v, ?_, ?_, World.alloc_heap_new _ _, ⟨p, m, c, rfl⟩, fun hx => ?_⟩, hlt⟩
    · exact hV2.row (World.grownBy_alloc W _ none) (fun r e => by cases e)
    · obtain ⟨t, ht⟩ := hV2.2.2.2.2.1
      exact ht.lt
    · refine (hgood hx).grown (World.grownBy_alloc W _ none) (fun r e => by cases e) (fun g hg => ?_)
      obtain ⟨t, ht⟩ := hV.2.2.2.2.1
      have h1 := ht.lt
      refine ⟨by omega, by simp; omega, fun e => ?_⟩
      have := (hV.2.2.1.ge g e).2
      omega
  case body =>
    rintro l pre ⟨⟨xi, xv⟩, xo⟩ a' W hl ⟨r, hr⟩ ⟨xb, rfl, ⟨v, hV, hxb, hx, ⟨p, m, c, hxv⟩, hread⟩, hlx0⟩
    dsimp only at hxv hread hx
    subst hxv
    have HV := Lib.hid hV
    obtain ⟨v1, v2, v3, v4, v5, v6, v7⟩ := hV
    cases xo with
    | false =>
      have c4 := v4.cell
      have f4 := v4.frozen
      clear v1 v2 v3 v4 v5 v6 v7 hread hx
      gi_wp2
      refine ⟨(KeepsOthers.setCell _ _ _).from _, rfl, ⟨((xi, .slice p m c), false), by simp, rfl⟩, ⟨v, HV.out.2.2.1.form.imp fun p h => ⟨_, h.choose, h.choose_spec⟩, HV.out.2.1.other (by omega) _⟩, HV.out.2.2.2.1.set _, HV.out.2.2.2.2.2.1.setCell (p := ⟨_, 0, none⟩) (by show w.heap.size ≤ w.heap.size + 1; omega) _⟩
    | true =>
      obtain ⟨pv, cv, hvv⟩ := v3.form
      rw [List.length_map] at hvv
      subst hvv
      have c0 := v2.cell
      have f0 := v2.frozen
      have q0 : W.cell? ⟨xb, 0, none⟩ = some (.bool xi.isList) := by rw [World.cell?, hx]; rfl
      have q1 : W.cell? ⟨xb, 1, none⟩ = some (.string ⟨xi.text.toArray⟩) := by rw [World.cell?, hx]; rfl
      have q2 : W.cell? ⟨xb, 2, none⟩ = some (.slice p m c) := by rw [World.cell?, hx]; rfl
      clear v1 v2 v4 v5 v6 v7 hx
      gi_wp2
      refine wpIn_round_L (fun L w' => L.getD 4 true = false → (w'.cell? ⟨w.heap.size, 0, none⟩ = some (.slice pv pre.length cv) ∧ w'.cell? ⟨xb, 0, none⟩ = some (.bool xi.isList) ∧ w'.cell? ⟨xb, 1, none⟩ = some (.string ⟨xi.text.toArray⟩) ∧ w'.cell? ⟨xb, 2, none⟩ = some (.slice p m c)))
        (by kernel_rfl) (by kernel_rfl) (fun ⟨_, _, h⟩ => h.elim) ?_
      refine wpAnyL_take (i := 0) (v := .slice pv pre.length cv) (fuel := 7) rfl (by kernel_rfl) (by kernel_rfl) (by kernel_rfl) (by kernel_rfl) (fun _ _ _ h => h) (fun L w' => by rw [getD_set_ne true (by omega)]) (fun _ => ⟨c0, q0, q1, q2⟩) (.inl ⟨by rfl, ?_⟩) ?_
      · rintro w' ⟨L, hcl, h0, hS⟩
        obtain ⟨z0, z1, z2, z3⟩ := hS (closedB_before hcl (i := 0) (by kernel_rfl) h0)
        clear hS hcl h0
        go_simp
      refine wpAnyL_take (i := 1) (v := .agg #[.bool xi.isList, .string ⟨xi.text.toArray⟩, .slice p m c]) (fuel := 6) rfl (by kernel_rfl) (by kernel_rfl) (by kernel_rfl) (by kernel_rfl) (fun _ _ _ h => h) (fun L w' => by rw [getD_set_ne true (by omega)]) (fun _ => ⟨c0, q0, q1, q2⟩) (.inl ⟨by rfl, ?_⟩) ?_
      · rintro w' ⟨L, hcl, h0, hS⟩
        obtain ⟨z0, z1, z2, z3⟩ := hS (closedB_before hcl (i := 1) (by kernel_rfl) h0)
        clear hS hcl h0
        go_simp
      refine wpAnyL_take (i := 2) (v := .int .i64 pre.length) (fuel := 5) rfl (by kernel_rfl) (by kernel_rfl) (by kernel_rfl) (by kernel_rfl) (fun _ _ _ h => h) (fun L w' => by rw [getD_set_ne true (by omega)]) (fun _ => ⟨c0, q0, q1, q2⟩) (.inl ⟨by rfl, ?_⟩) ?_
      · intro w' _
        go_simp
      simp only [Act.put, List.setIfInBounds_toArray]
      refine wpAnyL_one (i := 3) (fuel := 4) (by kernel_rfl) rfl (fun K hK => ?_)
      go_simp
      refine hK.out _ _ (fun _ => ⟨cell_ad _ c0, cell_ad _ q0, cell_ad _ q1, cell_ad _ q2⟩) (fun _ => ?_)
      clear hK K
      have hlx : pre.length ≤ 1099511627776 := by omega
      obtain ⟨W1, hW1⟩ : ∃ W1, (W.alloc (.cells #[.bool false, .string ⟨#[]⟩, .slice none 0 0] 46)).drew = W1 := ⟨_, rfl⟩
      have hown1 : OwnI (w.heap.size + 3) W1 (.slice pv pre.length cv) (pre.map Prod.fst) := by rw [← hW1]; exact v3.alloc _
      have hn1 : ∀ j u, (itemCells [(Item.none, Value.slice none 0 0)])[j]? = some u → W1.cell? ((⟨W.heap.size, 0, none⟩ : Addr).add j) = some u := by rw [← hW1]; exact cells_new W _ _
      have hz1 : W1.heap.size = W.heap.size + 1 := by rw [← hW1]; simp
      have hg1 : ∀ k, k < W.heap.size → W1.heap[k]? = W.heap[k]? := fun k hk => by rw [← hW1]; exact Below.heap_alloc W _ k hk
      have hb1 : Below w.heap.size w W1 := by rw [← hW1]; exact (HV.out.2.2.2.2.2.1.alloc HV.out.2.2.2.2.2.1.size _).drew
      rw [hW1]
      have hbs : w.heap.size + 3 ≤ W1.heap.size := by have := HV.out.2.2.2.2.1.choose_spec.lt; omega
      have Hz1 := Lib.hid hz1
      have Hg1 := Lib.hid hg1
      have Hn1 := Lib.hid hn1
      clear hW1 hz1 hg1 hn1
      refine wpAnyL_one (i := 4) (fuel := 3) (by kernel_rfl) rfl (fun K hK => ?_)
      refine step_appendI (by rfl) (.tmp 14) (.tmp 17) (by rfl) (w.heap.size + 3) (.slice pv pre.length cv) (pre.map Prod.fst) (by rfl) hown1 ⟨W.heap.size, 0, none⟩ 1 (Item.none, .slice none 0 0) ⟨none, 0, 0, rfl⟩ (by rfl) Hn1.out (by rw [List.length_map]; exact hlx) hbs ?_
      intro v' w2 hown2 hg2 hat2
      refine hK.out _ _ (fun h => absurd_false (by kernel_rfl) h) (fun _ => ?_)
      clear hK K
      obtain ⟨g, c', hv', hgB, hgz⟩ := hown2.at_ (by simp)
      rw [List.length_append, List.length_map, List.length_singleton] at hv'
      subst hv'
      simp only [Act.put, List.setIfInBounds_toArray]
      have g1 : (0 : Int) ≤ pre.length := by omega
      have g3 : ¬ ((pre.length : Int) + 1 ≤ (pre.length : Int)) := by omega
      have g2 : (pre.length : Int) < ((pre.length + 1 : Nat) : Int) := by omega
      refine wpAnyL_take (i := 5) (v := .pointer (some ⟨g, pre.length * 3, none⟩)) (fuel := 2) rfl (by kernel_rfl) (by kernel_rfl) (by kernel_rfl) (by kernel_rfl) (fun _ _ _ h => h) (fun L w' => by rw [getD_set_ne true (by omega)]) (fun h => absurd_false (by kernel_rfl) h) (.inl ⟨by rfl, ?_⟩) ?_
      · intro w' _
        go_simp
      simp only [Act.put]
      have HT : (pre.map Prod.fst).length = pre.length := List.length_map ..
      have hz2 := hg2.size
      have hc2 : ∀ i u, i < 3 → [Value.bool false, .string ⟨#[]⟩, .slice none 0 0][i]? = some u → w2.cell? ⟨g, pre.length * 3 + i, none⟩ = some u := fun i u hi hu => by
        have hown2' : w2.ownsRow (w.heap.size + 3) 46 3 (.slice (some ⟨g, 0, none⟩) (pre.length + 1) c') (pre.length + 1) (itemCells (pre.map Prod.fst ++ [(Item.none, Value.slice none 0 0)])) := by
          have := hown2
          unfold OwnI at this
          rw [List.length_append, HT, List.length_singleton] at this
          exact this
        rw [World.ownsRow.cellAt hown2' _ (by omega), itemCells_at _ pre.length i (Item.none, .slice none 0 0) (by rw [List.getElem?_append_right (by omega), HT]; simp) hi]
        exact hu
      have hfz : ∀ i, w2.frozen? ⟨g, i, none⟩ = false := fun i => by
        have hown2' : w2.ownsRow (w.heap.size + 3) 46 3 (.slice (some ⟨g, 0, none⟩) (pre.length + 1) c') (pre.length + 1) (itemCells (pre.map Prod.fst ++ [(Item.none, Value.slice none 0 0)])) := by
          have := hown2
          unfold OwnI at this
          rw [List.length_append, HT, List.length_singleton] at this
          exact this
        exact World.ownsRow.frozenAt hown2' i
      have r0 := hc2 0 _ (by omega) rfl
      have r1 := hc2 1 _ (by omega) rfl
      have r2 := hc2 2 _ (by omega) rfl
      rw [Nat.add_zero] at r0
      have z0 := hfz (pre.length * 3)
      have z1 := hfz (pre.length * 3 + 1)
      have z2 := hfz (pre.length * 3 + 2)
      have hvb : ∀ k, (Value.slice pv pre.length cv).ownBlock = some k → w.heap.size + 3 ≤ k := fun k hk => (v3.ge k hk).1
      have hlb : w2.heap[w.heap.size]? = some (.cells #[.slice pv pre.length cv] 44 (0, 0)) := by
        have hlt := HV.out.2.1.lt
        rw [hg2.block w.heap.size (by omega) (fun e => by have := hvb _ e.symm; omega), Hg1.out _ hlt]
        exact HV.out.2.1
      have hlB : Boxed w2 w.heap.size 44 (.slice pv pre.length cv) := hlb
      have d0 := hlB.cell
      have e0 := hlB.frozen
      have n1 : ¬ g = w.heap.size := by omega
      have n2 : ¬ w.heap.size = g := by omega
      clear hc2 hfz
      have hkg : ∀ k, k < W.heap.size → (Value.slice pv pre.length cv).ownBlock ≠ some k → k ≠ g := fun k hk hne e => by
        subst e
        rcases hat2 with hat2 | hat2
        · exact hne hat2.symm
        · have h1 := Hz1.out
          have h2 : some k = some W1.heap.size := hat2
          cases h2
          omega
      have hsame2 : ∀ k, k < W.heap.size → (Value.slice pv pre.length cv).ownBlock ≠ some k → w2.heap[k]? = W.heap[k]? := fun k hk hne =>
        (hg2.block k (by have := Hz1.out; omega) (fun e => hne e.symm)).trans (Hg1.out k hk)
      have hvn : (Value.slice (some ⟨g, 0, none⟩) (pre.length + 1) c').ownBlock = (Value.slice pv pre.length cv).ownBlock ∨ ∃ k, (Value.slice (some ⟨g, 0, none⟩) (pre.length + 1) c').ownBlock = some k ∧ W.heap.size ≤ k := by
        rcases hat2 with hat2 | hat2
        · exact .inl hat2
        · exact .inr ⟨_, hat2, by have := Hz1.out; omega⟩
      have hb2 : Below w.heap.size w w2 := hb1.grown hg2 hb1.size (fun k e => by have := hvb _ e; omega)
      have hwg : w.heap.size ≤ g := by omega
      have Hkg := Lib.hid hkg
      have Hsame := Lib.hid hsame2
      have Hvn := Lib.hid hvn
      clear hkg hsame2 hvn hvb hlb
      refine wpAnyL_two (i := 6) (j := 7) (fuel := 1) (by kernel_rfl) rfl rfl (fun K hK => ?_) (fun K hK => ?_)
      · go_simp
        refine hK.out _ _ (fun h => absurd_false (by kernel_rfl) h) (fun _ => ?_)
        clear hK K
        refine wpAnyL_one (i := 7) (fuel := 0) (by kernel_rfl) rfl (fun K hK => ?_)
        go_simp
        refine hK.out _ _ (fun h => absurd_false (by kernel_rfl) h) (fun _ => ?_)
        clear hK K
        refine wpAnyL_done (by kernel_rfl) ?_ 0
        have hL := OwnI.last hown2 (xi, .slice p m c)
        rw [HT] at hL
        show KeepsFrom _ _ _ ∧ SameBox _ _ _ ∧ AllI _ _ _
        refine AllV.snoc HV.out hS0 rfl (hread trivial) ?_ (OwnI.kept hL.1 (grownBy_setCell' _ _ _) (.inr (fun e => by cases e; exact n1 rfl))) ?_ Hvn.out ?_ ?_
        · exact (boxed_far (boxed_far (boxed_far hlB n2 _) n2 _) n2 _).set _
        · simp; have := Hz1.out; omega
        · intro k hk h1 h2
          have h3 := Hkg.out k hk h2
          exact (heap_set2 h1).trans ((heap_set2 h3).trans ((heap_set2 h3).trans ((heap_set2 h3).trans (Hsame.out k hk h2))))
        · exact (((hb2.setCell (p := ⟨g, _, none⟩) hwg _).setCell (p := ⟨g, _, none⟩) hwg _).setCell (p := ⟨g, _, none⟩) hwg _).setCell (p := ⟨w.heap.size, 0, none⟩) (Nat.le_refl _) _
      · go_simp
        refine hK.out _ _ (fun h => absurd_false (by kernel_rfl) h) (fun _ => ?_)
        clear hK K
        refine wpAnyL_one (i := 6) (fuel := 0) (by kernel_rfl) rfl (fun K hK => ?_)
        go_simp
        refine hK.out _ _ (fun h => absurd_false (by kernel_rfl) h) (fun _ => ?_)
        clear hK K
        refine wpAnyL_done (by kernel_rfl) ?_ 0
        have hL := OwnI.last (OwnI.kept hown2 (grownBy_setCell' w2 w.heap.size (.slice (some ⟨g, 0, none⟩) (pre.length + 1) c')) (.inr (fun e => by cases e; exact n1 rfl))) (xi, .slice p m c)
        rw [HT] at hL
        show KeepsFrom _ _ _ ∧ SameBox _ _ _ ∧ AllI _ _ _
        refine AllV.snoc HV.out hS0 rfl (hread trivial) ?_ hL.1 ?_ Hvn.out ?_ ?_
        · exact boxed_far (boxed_far (boxed_far (hlB.set _) n2 _) n2 _) n2 _
        · simp; have := Hz1.out; omega
        · intro k hk h1 h2
          have h3 := Hkg.out k hk h2
          exact (heap_set2 h3).trans ((heap_set2 h3).trans ((heap_set2 h3).trans ((heap_set2 h1).trans (Hsame.out k hk h2))))
        · exact (((hb2.setCell (p := ⟨w.heap.size, 0, none⟩) (Nat.le_refl _) _).setCell (p := ⟨g, _, none⟩) hwg _).setCell (p := ⟨g, _, none⟩) hwg _).setCell (p := ⟨g, _, none⟩) hwg _
  case done =>
    rintro D xs W hD hS ⟨v, hV⟩ hK
    obtain ⟨v1, v2, v3, v4, v5, v6, v7⟩ := hV
    obtain ⟨pv, cv, hvv⟩ := v3.form
    rw [List.length_map] at hvv
    subst hvv
    have hitems := hS v1
    have c0 := v2.cell
    have c1 := v4.cell
    have HI := Lib.hid hitems
    have H3 := Lib.hid v3
    have H7 := Lib.hid v7
    clear v1 v2 v4 v5 v3 v7 hS hitems
    gi_wp2
    refine wpIn_wide.2 ?_
    go_quiet (fail)
    gi_wp2
    have hK' : (W.drewN nq).heap[D]? = some (.deferred (some [])) := by rw [World.heap_drewN]; exact hK
    have hDz : D < W.heap.size := (Array.getElem?_eq_some_iff.1 hK).1
    have hg := grownBy_putObj' (W.drewN nq) D (.deferred none)
    have hR : ReadsIn ((W.drewN nq).putObj D (.deferred none)) (fun g => w.heap.size ≤ g ∧ g < ((W.drewN nq).putObj D (.deferred none)).heap.size) (.slice pv xs.length cv) (itemsOf xs) := by
      have h1 : ReadsIn W (fun g => w.heap.size ≤ g ∧ g < W.heap.size) (.slice pv xs.length cv) ((xs.map Prod.fst).map Prod.fst) :=
        OwnI.readsIn H3.out (fun k hk => by have := H3.out.ge k hk; exact ⟨by omega, this.2⟩) (fun q hq => by
          obtain ⟨x, hx, rfl⟩ := List.mem_map.1 hq
          exact (H7.out x hx).mono (fun g hg => ⟨by omega, hg.2.1⟩))
      have e1 : (xs.map Prod.fst).map Prod.fst = itemsOf xs := by simp [itemsOf]
      rw [e1] at h1
      have h2 : ReadsIn (W.drewN nq) (fun g => w.heap.size ≤ g ∧ g < W.heap.size) (.slice pv xs.length cv) (itemsOf xs) := h1.kept (fun _ _ _ _ hc => hc) (fun _ hg => hg)
      refine h2.grown hg (fun r e _ => by cases e; exact ⟨_, hK', rfl⟩) (fun g hg => ⟨hg.1, by simp; exact hg.2⟩)
    have hln : (itemsOf xs).length = xs.length := by simp [itemsOf]
    rw [← hln] at hR
    refine ⟨by simp, .inl ⟨_, _, rfl, run_takeDeferred hK', ?_⟩⟩
    refine ⟨_, results_tmp2 rfl _ _ _, (Below.drewN v6 _).trans (belowK_b (w := w) (Nat.le_refl _) (W.drewN nq) D _ _ (by omega) hK' rfl rfl), .inl ⟨itemsOf xs, pv, cv, ?_, HI, Lib.hid hR⟩⟩
    rw [hln]
    rfl
  case stop =>
    rintro D c pre W hD hSp ⟨rfl, hq, ⟨v, ⟨p, m, cp, rfl⟩, hl⟩, hg, hB⟩ hK
    have hnone := hSp hq
    have c0 := hl.cell
    have c1 := hg.cell
    have HI := Lib.hid hnone
    clear hnone hSp hq hl hg
    gi_wp2
    refine wpIn_wide.2 ?_
    go_quiet (fail)
    gi_wp2
    have hK' : (W.drewN nq).heap[D]? = some (.deferred (some [])) := by rw [World.heap_drewN]; exact hK
    refine ⟨by simp, .inl ⟨_, _, rfl, run_takeDeferred hK', ?_⟩⟩
    exact ⟨_, results_tmp2 rfl _ _ _, (Below.drewN hB _).trans (belowK_b (w := w) (Nat.le_refl _) (W.drewN nq) D _ _ (by omega) hK' rfl rfl), .inr ⟨p, m, cp, rfl, HI⟩⟩
theorem all_any (N : Nat) : ∀ (s : List UInt8) (w : World), s.length ≤ N → s.length ≤ 1099511627776 → Calls Tryz.prog 77 #[.string ⟨s.toArray⟩] w fun e w' => AllIs s e w w' := by
  induction N with
  | zero => exact fun s w hN hs => all_step' s w hs (fun t W ht => absurd ht (by omega))
  | succ N ih => exact fun s w hN hs => all_step' s w hs (fun t W ht => ih t W (by omega) (by omega))
end Go.Proofs.YthicdhnjincflaaGreatDoor

namespace Go.Proofs.YthicdhnjincflaaGreatDoor
open Go.RowKit Go.Shelf Go.Lib
theorem decode_long {s : List UInt8} (h : s.length > 65536) : decode s = (.none, 42) := by unfold decode; rw [if_pos h]
theorem decode_none {s : List UInt8} (h : ¬ s.length > 65536) (ha : all s = Option.none) : decode s = (.none, 40) := by unfold decode; rw [if_neg h, ha]
theorem decode_many {s : List UInt8} {xs : List Item} (h : ¬ s.length > 65536) (ha : all s = some xs) (hx : xs.length ≠ 1) : decode s = (.none, 40) := by
  unfold decode
  rw [if_neg h, ha]
  match xs, hx with
  | [], _ => rfl
  | [x], hx => simp at hx
  | _ :: _ :: _, _ => rfl
theorem decode_one {s : List UInt8} {x : Item} (h : ¬ s.length > 65536) (ha : all s = some [x]) : decode s = if deep x 12 then (.none, 41) else (x, 0) := by unfold decode; rw [if_neg h, ha]
theorem cut_sum {s inn rest : List UInt8} {b : Bool} (h : cut s = some (inn, b, rest)) : inn.length + rest.length ≤ s.length ∧ (b = true → inn.length + rest.length + 1 ≤ s.length) := by
  cases s with
  | nil => simp [cut] at h
  | cons c r =>
    rw [cut] at h
    split at h
    · simp only [Option.some.injEq, Prod.mk.injEq] at h
      obtain ⟨rfl, rfl, rfl⟩ := h
      refine ⟨by simp; omega, fun h => by cases h⟩
    · split at h
      · split at h
        · simp at h
        · split at h
          · simp at h
          · split at h
            · simp at h
            · simp only [Option.some.injEq, Prod.mk.injEq] at h
              obtain ⟨rfl, _, rfl⟩ := h
              simp only [List.length_take, List.length_drop, List.length_cons]
              omega
      · split at h
        · simp at h
        · split at h
          · simp at h
          · simp only [Option.some.injEq, Prod.mk.injEq] at h
            obtain ⟨rfl, _, rfl⟩ := h
            simp only [List.length_take, List.length_drop, List.length_cons]
            omega
theorem parse_size (f : Nat) : ∀ (s : List UInt8) (xs : List Item), parse f s = some xs → sizeAll xs ≤ s.length := by
  induction f with
  | zero => intro s xs h; cases h
  | succ f ih =>
    intro s xs h
    unfold parse at h
    split at h
    · cases h; simp [sizeAll]
    · cases hc : cut s with
      | none => rw [hc] at h; cases h
      | some q =>
        obtain ⟨inn, b, rest⟩ := q
        have h1 := cut_sum hc
        have h2 := cut_short hc
        rw [hc] at h
        dsimp only at h
        cases b with
        | false =>
          simp only [Bool.false_eq_true, if_false] at h
          cases hr : parse f rest with
          | none => rw [hr] at h; cases h
          | some ys =>
            rw [hr] at h
            cases h
            have := ih rest ys hr
            simp [sizeAll, Item.size]
            omega
        | true =>
          simp only [if_true] at h
          cases hi : parse f inn with
          | none => rw [hi] at h; cases h
          | some zs =>
            rw [hi] at h
            simp only [Option.map_some] at h
            cases hr : parse f rest with
            | none => rw [hr] at h; cases h
            | some ys =>
              rw [hr] at h
              cases h
              have e1 := ih rest ys hr
              have e2 := ih inn zs hi
              have e3 := h1.2 rfl
              simp [sizeAll, Item.size]
              omega
theorem all_size {s : List UInt8} {xs : List Item} (h : all s = some xs) : sizeAll xs ≤ s.length := parse_size _ s xs h
theorem cells3_new (w : World) (v0 v1 v2 : Value) (t : TypeId) : (w.alloc (.cells #[v0, v1, v2] t)).heap[w.heap.size]? = some (.cells #[v0, v1, v2] t (0, 0)) := World.alloc_heap_new w _
end Go.Proofs.YthicdhnjincflaaGreatDoor

namespace Go.Proofs.YthicdhnjincflaaGreatDoor
open Go.RowKit Go.Shelf Go.Lib
theorem results_item0 {fn : Func} {p : Tmp} (h : fn.results = #[.cell p 46]) (tmps : Array Value) (w : World) (g : Nat) (v0 v1 v2 : Value) (hp : tmps.getD p undef = .pointer (some ⟨g, 0, none⟩))
    (h0 : w.cell? ⟨g, 0, none⟩ = some v0) (h1 : w.cell? ⟨g, 1, none⟩ = some v1) (h2 : w.cell? ⟨g, 2, none⟩ = some v2) :
    (results fn tmps).run Tryz.prog w = .ok (.agg #[v0, v1, v2]) w := by
  have hp' : tmps[p]?.getD undef = .pointer (some ⟨g, 0, none⟩) := by simpa using hp
  simp [results, h, hp', asAddr, loadItem w g v0 v1 v2 h0 h1 h2]
set_option maxRecDepth 100000 in
theorem list_any (p : Option Addr) (n c : Nat) (w : World) : Calls Tryz.prog 57 #[.slice p n c] w fun e w' => e = .returned (.agg #[.bool true, .string ⟨#[]⟩, .slice p n c]) ∧ Below w.heap.size w w' := by
  go_enter Tryz.func57, Tryz.ntmps57
  go_wp2
  refine bodyPost_ret (results_item0 rfl _ _ w.heap.size (.bool true) (.string ⟨#[]⟩) (.slice p n c) rfl ?_ ?_ ?_) rfl ?_
  · simp [go_sem]
  · simp [go_sem]
  · simp [go_sem]
  exact ⟨rfl, laid1 w _⟩
theorem cells_at (w : World) (xs : List Value) (t : TypeId) (j : Nat) (u : Value) (h : xs[j]? = some u) : (w.alloc (.cells xs.toArray t)).cell? ⟨w.heap.size, j, none⟩ = some u := by
  rw [World.cell?_alloc_mark]
  simpa using h
end Go.Proofs.YthicdhnjincflaaGreatDoor

namespace Go.Proofs.YthicdhnjincflaaGreatDoor
open Go.RowKit Go.Shelf Go.Lib
def Box3 (W : World) (b : Nat) (v0 v1 v2 : Value) : Prop := W.cell? ⟨b, 0, none⟩ = some v0 ∧ W.cell? ⟨b, 1, none⟩ = some v1 ∧ W.cell? ⟨b, 2, none⟩ = some v2 ∧ ∀ i, W.frozen? ⟨b, i, none⟩ = false
theorem Box3.kept {W W' : World} {b : Nat} {v0 v1 v2 : Value} (h : Box3 W b v0 v1 v2) (hb : W'.heap[b]? = W.heap[b]?) : Box3 W' b v0 v1 v2 := by
  obtain ⟨h0, h1, h2, h3⟩ := h
  exact ⟨(World.cell?_of_block (a := ⟨b, 0, none⟩) hb).trans h0, (World.cell?_of_block (a := ⟨b, 1, none⟩) hb).trans h1, (World.cell?_of_block (a := ⟨b, 2, none⟩) hb).trans h2, fun i => (World.frozen?_of_block (a := ⟨b, i, none⟩) hb).trans (h3 i)⟩
theorem Box3.set2 {W : World} {b : Nat} {v0 v1 v2 : Value} (h : Box3 W b v0 v1 v2) (u : Value) : Box3 (W.setCell ⟨b, 2, none⟩ u) b v0 v1 u := by
  obtain ⟨h0, h1, h2, h3⟩ := h
  exact ⟨(World.cell?_setCell_other _ _ _ _ (fun e => by cases e)).trans h0, (World.cell?_setCell_other _ _ _ _ (fun e => by cases e)).trans h1, World.cell?_setCell_same _ _ _ h2, fun i => by rw [World.frozen?_setCell]; exact h3 i⟩
theorem Box3.lt {W : World} {b : Nat} {v0 v1 v2 : Value} (h : Box3 W b v0 v1 v2) : b < W.heap.size := World.block_lt_of_cell? W ⟨b, 0, none⟩ h.1
theorem Box3.new (w : World) (v0 v1 v2 : Value) (t : TypeId) : Box3 (w.alloc (.cells #[v0, v1, v2] t)) w.heap.size v0 v1 v2 := by
  have c := cells_at w [v0, v1, v2] t
  refine ⟨c 0 _ rfl, c 1 _ rfl, c 2 _ rfl, fun i => ?_⟩
  rw [World.frozen?, World.alloc_heap_new]
  simp
def TakV (w : World) (l : List (Item × Value)) (v : Value) (W : World) : Prop :=
  Below w.heap.size w W ∧ Box3 W w.heap.size (.bool false) (.string ⟨#[]⟩) (.slice none 0 0) ∧ Box3 W (w.heap.size + 1) (.bool true) (.string ⟨#[]⟩) v ∧ OwnI (w.heap.size + 2) W v l ∧
  ∀ q, q ∈ l → ReadsIn W (fun g => w.heap.size + 2 ≤ g ∧ g < W.heap.size ∧ v.ownBlock ≠ some g) q.2 q.1.list
theorem TakV.below {w W W' : World} {l : List (Item × Value)} {v : Value} (h : TakV w l v W) (hb : Below W.heap.size W W') : TakV w l v W' := by
  obtain ⟨h1, h2, h3, h4, h5⟩ := h
  have hg : W.grownBy W' none := ⟨hb.os, hb.tape, hb.output, hb.size, fun i hi _ => hb.block i hi⟩
  refine ⟨h1.trans (hb.mono h1.size), h2.kept (hb.block _ h2.lt), h3.kept (hb.block _ h3.lt), h4.kept hg ?_, fun q hq => (h5 q hq).grown hg (fun r e => by cases e) (fun g hg => ⟨hg.1, Nat.lt_of_lt_of_le hg.2.1 hb.size, hg.2.2⟩)⟩
  cases v.ownBlock with
  | none => exact .inl rfl
  | some k => exact .inr (by simp)
theorem TakV.snoc {w W W' : World} {l : List (Item × Value)} {v v' : Value} {q : Item × Value} (h : TakV w l v W)
    (hrx : ReadsIn W (fun g => w.heap.size + 2 ≤ g ∧ g < W.heap.size ∧ v.ownBlock ≠ some g) q.2 q.1.list) (hown : OwnI (w.heap.size + 2) W' v' (l ++ [q]))
    (hsame : ∀ k, k < W.heap.size → v.ownBlock ≠ some k → W'.heap[k]? = W.heap[k]?) (hz : W.heap.size ≤ W'.heap.size) (hb : Below w.heap.size w W')
    (hv : v'.ownBlock = v.ownBlock ∨ ∃ k, v'.ownBlock = some k ∧ W.heap.size ≤ k) : TakV w (l ++ [q]) v' (W'.setCell ⟨w.heap.size + 1, 2, none⟩ v') := by
  obtain ⟨h1, h2, h3, h4, h5⟩ := h
  have hge := h4.ge
  have hA : ∀ {u : Value} {ys : List Item}, ReadsIn W (fun g => w.heap.size + 2 ≤ g ∧ g < W.heap.size ∧ v.ownBlock ≠ some g) u ys → ReadsIn (W'.setCell ⟨w.heap.size + 1, 2, none⟩ v') (fun g => w.heap.size + 2 ≤ g ∧ g < (W'.setCell ⟨w.heap.size + 1, 2, none⟩ v').heap.size ∧ v'.ownBlock ≠ some g) u ys := fun hr =>
    hr.kept (fun g u o hg hc => (World.cell?_setCell_other _ _ _ _ (fun e => by cases e; have := hg.1; omega)).trans ((World.cell?_of_block (a := ⟨g, o, none⟩) (hsame g hg.2.1 hg.2.2)).trans hc)) (fun g hg => ⟨hg.1, by rw [World.size_setCell]; exact Nat.lt_of_lt_of_le hg.2.1 hz, fun e => by
      rcases hv with hv | ⟨k, hk, hk2⟩
      · exact hg.2.2 (hv ▸ e)
      · rw [hk] at e; cases e; omega⟩)
  have b0 := h3.lt
  refine ⟨hb.setCell (p := ⟨w.heap.size + 1, 2, none⟩) (show w.heap.size ≤ w.heap.size + 1 by omega) _, ?_, ?_, ?_, fun q' hq => ?_⟩
  · exact (h2.kept (hsame _ (by omega) (fun e => by have := (hge _ e).1; omega))).kept (heap_set2 (by omega))
  · exact (h3.kept (hsame _ (by omega) (fun e => by have := (hge _ e).1; omega))).set2 _
  · refine hown.kept (grownBy_setCell2 _ _ _ _) ?_
    cases hq : v'.ownBlock with
    | none => exact .inl rfl
    | some k => exact .inr (fun e => by cases e; have := (hown.ge _ hq).1; omega)
  · rcases List.mem_append.1 hq with hq | hq
    · exact hA (h5 q' hq)
    · simp at hq; rw [hq]; exact hA hrx
end Go.Proofs.YthicdhnjincflaaGreatDoor

namespace Go.Proofs.YthicdhnjincflaaGreatDoor
open Go.RowKit Go.Shelf Go.Lib
def Strs (w : World) (v : Value) (xs : List ByteArray) : Prop :=
  ∃ p c, v = .slice p xs.length c ∧ xs.length ≤ c ∧ (xs = [] ∨ ∃ bk o, p = some ⟨bk, o, none⟩ ∧ bk < w.heap.size ∧ ∀ (j : Nat) x, xs[j]? = some x → w.cell? ⟨bk, o + j, none⟩ = some (.string x))
theorem Strs.below {w w' : World} {v : Value} {xs : List ByteArray} (h : Strs w v xs) (hb : Below w.heap.size w w') : Strs w' v xs := by
  obtain ⟨p, c, hv, hc, h⟩ := h
  refine ⟨p, c, hv, hc, ?_⟩
  rcases h with h | ⟨bk, o, hp, hk, h⟩
  · exact .inl h
  · exact .inr ⟨bk, o, hp, Nat.lt_of_lt_of_le hk hb.size, fun j x hx => (hb.cell (p := ⟨bk, o + j, none⟩) hk).trans (h j x hx)⟩
theorem infoStr : (Tryz.prog.info? 9).map (fun i => (i.zero, i.size, i.bytes)) = some (some (.string ⟨#[]⟩), 1, 16) := by kernel_rfl
def OwnS (base : Nat) (w : World) (v : Value) (l : List ByteArray) : Prop := w.ownsRow base 9 1 v l.length (l.map Value.string)
theorem OwnS.nil (base : Nat) (w : World) : OwnS base w (.slice none 0 0) [] := World.ownsRow_nil _ _ _ _
theorem OwnS.form {base : Nat} {w : World} {v : Value} {l : List ByteArray} (h : OwnS base w v l) : ∃ p c, v = .slice p l.length c := by
  obtain ⟨_, ⟨rfl, h0⟩ | ⟨g, cap, cur, rfl, _⟩⟩ := h
  · exact ⟨none, 0, by rw [h0]⟩
  · exact ⟨_, _, rfl⟩
theorem OwnS.lt {base : Nat} {w : World} {v : Value} {l : List ByteArray} (h : OwnS base w v l) : ∀ k, v.ownBlock = some k → base ≤ k ∧ k < w.heap.size := World.ownsRow.lt h
theorem OwnS.kept {base : Nat} {w w' : World} {row : Option Nat} {v : Value} {l : List ByteArray} (h : OwnS base w v l) (hg : w.grownBy w' row) (hne : v.ownBlock = none ∨ v.ownBlock ≠ row) : OwnS base w' v l := World.ownsRow.kept h hg hne
theorem OwnS.of_block {base : Nat} {w w' : World} {v : Value} {l : List ByteArray} (h : OwnS base w v l) (hb : ∀ k, v.ownBlock = some k → w'.heap[k]? = w.heap[k]?) : OwnS base w' v l := by
  obtain ⟨h1, h2⟩ := h
  refine ⟨h1, ?_⟩
  rcases h2 with h2 | ⟨g, cap, cur, hv, hg, hh, r⟩
  · exact .inl h2
  · exact .inr ⟨g, cap, cur, hv, hg, by rw [hb g (by rw [hv]; rfl)]; exact hh, r⟩
theorem OwnS.cellsAt {base : Nat} {w : World} {v : Value} {l : List ByteArray} (h : OwnS base w v l) {k : Nat} (hk : v.ownBlock = some k) : ∃ o : Obj, w.heap[k]? = some o ∧ o.isCells = true := by
  obtain ⟨_, ⟨rfl, _⟩ | ⟨g, cap, cur, rfl, _, hg, _⟩⟩ := h
  · cases hk
  · cases hk; exact ⟨_, hg, rfl⟩
theorem OwnS.opened {base : Nat} {w : World} {v : Value} {l : List ByteArray} (h : OwnS base w v l) (h0 : 0 < l.length) :
    ∃ g c, v = .slice (some ⟨g, 0, none⟩) l.length c ∧ base ≤ g ∧ g < w.heap.size ∧ (∀ j x, l[j]? = some x → w.cell? ⟨g, j, none⟩ = some (.string x)) ∧ (∀ j, w.frozen? ⟨g, j, none⟩ = false) := by
  have h' := h
  obtain ⟨_, ⟨_, hn⟩ | ⟨g, cap, cur, rfl, hb, hg, _⟩⟩ := h
  · omega
  · refine ⟨g, cap, rfl, hb, (Array.getElem?_eq_some_iff.1 hg).1, fun j x hj => ?_, fun j => World.ownsRow.frozenAt h' j⟩
    have hl := (List.getElem?_eq_some_iff.1 hj).1
    rw [World.ownsRow.cellAt h' j (by omega), List.getElem?_map, hj]; rfl
theorem OwnS.cap {base : Nat} {w : World} {p : Option Addr} {n c : Nat} {l : List ByteArray} (h : OwnS base w (.slice p n c) l) : l.length ≤ c := by
  obtain ⟨_, ⟨e, h0⟩ | ⟨g, cap, cur, e, hb, hg, h1, h2⟩⟩ := h
  · omega
  · cases e; assumption
theorem OwnS.strs {base : Nat} {w : World} {v : Value} {l : List ByteArray} (h : OwnS base w v l) : Strs w v l := by
  have hf := h.form
  obtain ⟨p, c, rfl⟩ := hf
  refine ⟨p, c, rfl, h.cap, ?_⟩
  cases l with
  | nil => exact .inl rfl
  | cons x r =>
    obtain ⟨g, c', hv, _, hg, hc, _⟩ := h.opened (by simp)
    cases hv
    exact .inr ⟨g, 0, rfl, hg, fun j x hx => by rw [Nat.zero_add]; exact hc j x hx⟩
theorem OwnS.stored {base g c n : Nat} {w : World} {l : List ByteArray} (h : OwnS base w (.slice (some ⟨g, 0, none⟩) n c) l) (j : Nat) (b : ByteArray) :
    OwnS base (w.setCell ⟨g, j, none⟩ (.string b)) (.slice (some ⟨g, 0, none⟩) n c) (l.set j b) ∧ w.grownBy (w.setCell ⟨g, j, none⟩ (.string b)) (some g) := by
  obtain ⟨p, c', hv⟩ := OwnS.form h
  obtain rfl : n = l.length := by cases hv; rfl
  have h1 := World.ownsRow.stored (u := .string b) h j
  refine ⟨?_, h1.2⟩
  unfold OwnS
  rw [List.length_set, List.map_set]
  exact h1.1
theorem wpList_appendT {P : Program} {ops : Array Oper} {rest : List Oper} {o : Oper} {a : Act} {w : World} {Q : Exit → Act → World → Prop} (hgd : o.guard = none) (s x : Operand) (t : TypeId)
    (ho : o.op = .call { callee := .builtin .append, args := #[s, x], argTypes := #[t, t] })
    (base : Nat) (ht : P.underlying t = some (.slice 9)) (hi : (P.info? 9).map (fun i => (i.zero, i.size, i.bytes)) = some (some (.string ⟨#[]⟩), 1, 16))
    (v : Value) (l : List ByteArray) (hs : a.eval s = v) (hown : OwnS base w v l)
    (ad : Addr) (c : Nat) (b : ByteArray) (hx : a.eval x = .slice (some ad) 1 c) (hnews : w.cell? (ad.add 0) = some (.string b))
    (h63 : l.length + 1 ≤ 1099511627776) (hbase : base ≤ w.heap.size)
    (h : ∀ v' w', OwnS base w' v' (l ++ [b]) → w.grownBy w' v.ownBlock → wpList P ops Q rest (a.put o.dst v') w') : wpList P ops Q (o :: rest) a w := by
  obtain ⟨i0, hi0, hz0, hz1, hz2⟩ := info_parts hi
  refine wpList_append_own w hgd s x t ho base 9 i0 (.string ⟨#[]⟩) 1 16 ht hi0 hz0 hz1 hz2 rfl (by decide) v l.length (l.map Value.string) hs hown ad 1 c [.string b] hx (by rfl) (fun j u hu => by
    match j, hu with
    | 0, hu => cases hu; exact hnews) (by simp [Value.oneCell']) (by unfold maxLen; omega) (by omega) hbase ?_
  intro v' w' h1 h2 _
  refine h v' w' ?_ h2
  unfold OwnS
  rw [List.map_append, List.length_append]
  exact h1
theorem OwnS.base {b b' : Nat} {w : World} {v : Value} {l : List ByteArray} (h : OwnS b w v l) (hb : b' ≤ b) : OwnS b' w v l := by
  obtain ⟨h1, h2⟩ := h
  refine ⟨h1, ?_⟩
  rcases h2 with h2 | ⟨g, cap, cur, hv, hg, r⟩
  · exact .inl h2
  · exact .inr ⟨g, cap, cur, hv, by omega, r⟩
theorem OwnS.after {b : Nat} {w w' : World} {v : Value} {l : List ByteArray} (h : OwnS b w v l) (hb : Below w.heap.size w w') : OwnS b w' v l := h.of_block (fun k e => hb.block k (h.lt k e).2)
end Go.Proofs.YthicdhnjincflaaGreatDoor

namespace Go.Proofs.YthicdhnjincflaaGreatDoor
open Go.RowKit Go.Shelf Go.Lib
attribute [local go_sem] Oper.semAt_some
theorem append_place {P : Program} (w : World) (base : Nat) (t ty e : TypeId) (i : TypeInfo) (z : Value) (bytes : Nat) (ht : P.underlying t = some (.slice e)) (hi : P.info? e = some i) (hz : i.zero = some z)
    (hsize : i.size = 1) (hby : i.bytes = bytes) (hzs : z.cells.size = 1)
    (v : Value) (n : Nat) (xs : List Value) (hown : w.ownsRow base e 1 v n xs)
    (a : Addr) (m c : Nat) (news : List Value) (hl : news.length = m * 1) (hnews : ∀ j u, news[j]? = some u → w.cell? (a.add j) = some u) (h1 : ∀ u ∈ news, u.oneCell' = true)
    (h63 : n + m ≤ maxLen) (hbytes : (n + m) * bytes ≤ 140737488355328) (v' : Value) (w' : World) (hrun : (Builtin.append_ #[t, t] ty #[v, .slice (some a) m c]).run P w = .ok v' w') :
    v'.ownBlock = v.ownBlock ∨ ∀ k, v'.ownBlock = some k → w.heap.size ≤ k := by
  have hsmall : n + m ≤ 9223372036854775807 := by simp only [maxLen] at h63; omega
  subst hby
  rcases hown.2 with ⟨rfl, rfl⟩ | ⟨g, cap, cur, rfl, hbg, hg, hnc, hcm, hcs, htake⟩
  · have hx : xs = [] := List.eq_nil_of_length_eq_zero (by simpa using hown.1)
    subst hx
    obtain ⟨v1, w1, hr, h2, _⟩ := run_append_own (P := P) w w.heap.size t ty e i z 1 i.bytes ht hi hz hsize rfl hzs (by decide) _ _ _ (World.ownsRow_nil w w.heap.size e 1) a m c news hl hnews h1 h63 hbytes (Nat.le_refl _)
    rw [hr] at hrun
    cases hrun
    exact .inr fun k hk => (World.ownsRow.lt h2 k hk).1
  · by_cases hroom : n + m ≤ cap
    · have hr := run_append_room (P := P) w t ty e i ht hi g n cap cur hg a m c news (by rw [hsize]; exact hl) hnews h1 hroom (by rw [hsize, hl, hcs, ← Nat.add_mul]; exact Nat.mul_le_mul_right _ hroom)
      rw [hr] at hrun
      cases hrun
      exact .inl rfl
    · have holds : ∀ j u, xs[j]? = some u → w.cell? ((⟨g, 0, none⟩ : Addr).add j) = some u := hown.cells (g := g) rfl
      have hr := run_append_grow (P := P) w t ty e i z ht hi hz ⟨g, 0, none⟩ n cap xs (by rw [hsize]; exact hown.1) holds a m c news (by rw [hsize]; exact hl) hnews (by omega) (by omega) (growslice_fits (by omega) hbytes)
      rw [hr] at hrun
      cases hrun
      exact .inr fun k hk => by cases hk; exact Nat.le_refl _
theorem run_appendTs {P : Program} (base : Nat) (w : World) (t ty : TypeId) (ht : P.underlying t = some (.slice 9)) (hi : (P.info? 9).map (fun i => (i.zero, i.size, i.bytes)) = some (some (.string ⟨#[]⟩), 1, 16))
    (v : Value) (l : List ByteArray) (hown : OwnS base w v l)
    (ad : Addr) (m c : Nat) (news : List ByteArray) (hl : news.length = m) (hnews : ∀ (j : Nat) x, news[j]? = some x → w.cell? (ad.add j) = some (.string x))
    (h63 : l.length + m ≤ 1099511627776) (hbase : base ≤ w.heap.size) :
    ∃ v' w', (Builtin.append_ #[t, t] ty #[v, .slice (some ad) m c]).run P w = .ok v' w' ∧ OwnS base w' v' (l ++ news) ∧ w.grownBy w' v.ownBlock ∧ (v'.ownBlock = v.ownBlock ∨ ∀ k, v'.ownBlock = some k → w.heap.size ≤ k) := by
  obtain ⟨i0, hi0, hz0, hz1, hz2⟩ := info_parts hi
  have hpl := append_place w base t ty 9 i0 (.string ⟨#[]⟩) 16 ht hi0 hz0 hz1 hz2 rfl v l.length (l.map Value.string) hown ad m c (news.map Value.string) (by simp [hl]) (fun j u hu => by
    rw [List.getElem?_map] at hu
    cases hx : news[j]? with
    | none => rw [hx] at hu; cases hu
    | some x => rw [hx] at hu; cases hu; exact hnews j x hx) (by
    intro u hu
    obtain ⟨x, _, rfl⟩ := List.mem_map.1 hu
    rfl) (by unfold maxLen; omega) (by omega)
  obtain ⟨v', w', h1, h2, h3, _⟩ := run_append_own (P := P) w base t ty 9 i0 (.string ⟨#[]⟩) 1 16 ht hi0 hz0 hz1 hz2 rfl (by decide) v l.length (l.map Value.string) hown ad m c (news.map Value.string) (by simp [hl]) (fun j u hu => by
    rw [List.getElem?_map] at hu
    cases hx : news[j]? with
    | none => rw [hx] at hu; cases hu
    | some x => rw [hx] at hu; cases hu; exact hnews j x hx) (by
    intro u hu
    obtain ⟨x, _, rfl⟩ := List.mem_map.1 hu
    rfl) (by unfold maxLen; omega) (by omega) hbase
  refine ⟨v', w', h1, ?_, h3, hpl v' w' h1⟩
  unfold OwnS
  rw [List.map_append, List.length_append, hl]
  exact h2
theorem wpList_appendTs {P : Program} {ops : Array Oper} {rest : List Oper} {o : Oper} {a : Act} {w : World} {Q : Exit → Act → World → Prop} (hgd : o.guard = none) (s x : Operand) (t : TypeId)
    (ho : o.op = .call { callee := .builtin .append, args := #[s, x], argTypes := #[t, t] })
    (base : Nat) (ht : P.underlying t = some (.slice 9)) (hi : (P.info? 9).map (fun i => (i.zero, i.size, i.bytes)) = some (some (.string ⟨#[]⟩), 1, 16))
    (v : Value) (l : List ByteArray) (hs : a.eval s = v) (hown : OwnS base w v l)
    (ad : Addr) (m c : Nat) (news : List ByteArray) (hx : a.eval x = .slice (some ad) m c) (hl : news.length = m) (hnews : ∀ (j : Nat) x, news[j]? = some x → w.cell? (ad.add j) = some (.string x))
    (h63 : l.length + m ≤ 1099511627776) (hbase : base ≤ w.heap.size)
    (h : ∀ v' w', OwnS base w' v' (l ++ news) → w.grownBy w' v.ownBlock → (v'.ownBlock = v.ownBlock ∨ ∀ k, v'.ownBlock = some k → w.heap.size ≤ k) → wpList P ops Q rest (a.put o.dst v') w') : wpList P ops Q (o :: rest) a w := by
  obtain ⟨v', w', hr, h2, h3, h4⟩ := run_appendTs (P := P) base w t o.type ht hi v l hown ad m c news hl hnews h63 hbase
  refine wpList_plain hgd fun K hK => ?_
  unfold Oper.wp execOp
  simp only [ho, resolve, invoke, builtin, Sem.run_bind, Sem.run_pure, Result.andThen_ok, List.map_toArray, List.map_cons, List.map_nil, hs, hx, hr]
  exact hK _ _ (h v' w' h2 h3 h4)
theorem step_appendTs {P : Program} {ops : Array Oper} {o : Oper} {a : Act} {w : World} {K : Act → World → Prop} {Q : Exit → Act → World → Prop} {E : Prop} (hw : Region.wanted o (yielded ops a.tmps) = true) (s x : Operand) (t : TypeId)
    (ho : o.op = .call { callee := .builtin .append, args := #[s, x], argTypes := #[t, t] })
    (base : Nat) (ht : P.underlying t = some (.slice 9)) (hi : (P.info? 9).map (fun i => (i.zero, i.size, i.bytes)) = some (some (.string ⟨#[]⟩), 1, 16))
    (v : Value) (l : List ByteArray) (hs : a.eval s = v) (hown : OwnS base w v l)
    (ad : Addr) (m c : Nat) (news : List ByteArray) (hx : a.eval x = .slice (some ad) m c) (hl : news.length = m) (hnews : ∀ (j : Nat) x, news[j]? = some x → w.cell? (ad.add j) = some (.string x))
    (h63 : l.length + m ≤ 1099511627776) (hbase : base ≤ w.heap.size)
    (hK : ∀ v' w', OwnS base w' v' (l ++ news) → w.grownBy w' v.ownBlock → (v'.ownBlock = v.ownBlock ∨ ∀ k, v'.ownBlock = some k → w.heap.size ≤ k) → K (a.put o.dst v') w') :
    if Region.wanted o (yielded ops a.tmps) = true then Oper.wp P o a w K Q else E := by
  rw [if_pos hw]
  obtain ⟨v', w', hr, h2, h3, h4⟩ := run_appendTs (P := P) base w t o.type ht hi v l hown ad m c news hl hnews h63 hbase
  unfold Oper.wp execOp
  simp only [ho, resolve, invoke, builtin, Sem.run_bind, Sem.run_pure, Result.andThen_ok, List.map_toArray, List.map_cons, List.map_nil, hs, hx, hr]
  exact hK _ _ h2 h3 h4
theorem one_at {P : Prop} {x y : ByteArray} {j : Nat} (h : [x][j]? = some y) (k : j = 0 → x = y → P) : P := by
  match j, h with
  | 0, h => exact k rfl (Option.some.inj h)
end Go.Proofs.YthicdhnjincflaaGreatDoor

namespace Go.Proofs.YthicdhnjincflaaGreatDoor
open Go.RowKit Go.Shelf Go.Lib
attribute [local go_sem] Oper.semAt_some
def DecNew (s : List UInt8) (e : Ending) (w w' : World) : Prop :=
  Below w.heap.size w w' ∧ ∃ (x : Item) (n : Int) (p : Option Addr) (c : Nat), e = .returned (.tuple #[.agg #[.bool x.isList, .string ⟨x.text.toArray⟩, .slice p x.list.length c], .int .i64 n]) ∧
    Hid (decode s = (x, n)) ∧ Hid (ReadsIn w' (fun g => w.heap.size ≤ g ∧ g < w'.heap.size) (.slice p x.list.length c) x.list)
set_option maxRecDepth 100000 in
set_option maxHeartbeats 3200000 in
theorem decodeNew_any (s : List UInt8) (w : World) (hs : s.length ≤ 1099511627776) : Calls Tryz.prog 45 #[.string ⟨s.toArray⟩] w fun e w' => DecNew s e w w' := by
  by_cases hl : s.length > 65536
  · have h1 : (65536 : Int) < s.length := by omega
    have H := Lib.hid (decode_long hl)
    clear hl
    go_enter Tryz.func45, Tryz.ntmps45
    go_wp2_with fail
    refine bodyPost_ret (results_item1 rfl _ _ w.heap.size (.bool false) (.string ⟨#[]⟩) (.slice none 0 0) rfl ?_ ?_ ?_) rfl ?_
    · simp [go_sem]
    · simp [go_sem]
    · simp [go_sem]
    exact ⟨laid1 w _, Item.none, 42, none, 0, rfl, H, Lib.hid (ReadsIn.nil _ _)⟩
  · have h1 : ¬ (65536 : Int) < s.length := by omega
    have Hl := Lib.hid hl
    clear hl
    have hc := Lib.hid (all_any s.length s (w.alloc (.cells #[.bool false, .string ⟨#[]⟩, .slice none 0 0] 46)) (Nat.le_refl _) hs)
    go_enter Tryz.func45, Tryz.ntmps45
    go_wp2_with fail
    refine hc.out.mono ?_
    rintro e w2 ⟨hB2, hres⟩
    have hg : w.heap.size < (w.alloc (.cells #[.bool false, .string ⟨#[]⟩, .slice none 0 0] 46)).heap.size := by simp
    have hx2 : w2.heap[w.heap.size]? = some (.cells #[.bool false, .string ⟨#[]⟩, .slice none 0 0] 46 (0, 0)) := (hB2.block _ hg).trans (cells3_new w _ _ _ _)
    have hB3 : Below w.heap.size w w2 := (laid1 w _).trans (hB2.mono (by omega))
    have q0 : w2.cell? ⟨w.heap.size, 0, none⟩ = some (.bool false) := by rw [World.cell?, hx2]; rfl
    have q1 : w2.cell? ⟨w.heap.size, 1, none⟩ = some (.string ⟨#[]⟩) := by rw [World.cell?, hx2]; rfl
    have q2 : w2.cell? ⟨w.heap.size, 2, none⟩ = some (.slice none 0 0) := by rw [World.cell?, hx2]; rfl
    have z : ∀ i, w2.frozen? ⟨w.heap.size, i, none⟩ = false := fun i => by rw [World.frozen?, hx2]; simp
    have z0 := z 0
    have z1 := z 1
    have z2 := z 2
    have HB3 := Lib.hid hB3
    clear z hx2 hB2 hB3 hc
    have hW : ∀ v0 v1 v2, Below w.heap.size w (((w2.setCell ⟨w.heap.size, 0, none⟩ v0).setCell ⟨w.heap.size, 1, none⟩ v1).setCell ⟨w.heap.size, 2, none⟩ v2) := fun v0 v1 v2 => ((HB3.out.setCell (p := ⟨w.heap.size, 0, none⟩) (Nat.le_refl _) v0).setCell (p := ⟨w.heap.size, 1, none⟩) (Nat.le_refl _) v1).setCell (p := ⟨w.heap.size, 2, none⟩) (Nat.le_refl _) v2
    have HW := Lib.hid hW
    clear hW
    rcases hres with ⟨xs, p, cp, rfl, HA, HRd⟩ | ⟨p, m, cp, rfl, HA⟩
    · by_cases hx1 : xs.length = 1
      · match xs, hx1, HA, HRd with
        | [x], _, HA, HRd =>
          have hsz : x.size ≤ s.length := by have := all_size HA.out; simpa [sizeAll] using this
          obtain ⟨-, g, o, rfl, hgA, hat⟩ := HRd.out.at (by simp)
          obtain ⟨h4, h5, v', h6, h7⟩ := hat 0 x rfl
          obtain ⟨px, cx, rfl⟩ := h7.form
          have Hdec := Lib.hid (decode_one Hl.out HA.out)
          rw [Nat.zero_mul, Nat.add_zero] at h4 h5 h6
          have hrw : Reads w2 w2.heap.size (.slice px x.list.length cx) x.list := h7.mono (fun g hg => hg.2)
          have hd := Lib.hid (deep_any s.length hs x 12 (.slice px x.list.length cx) w2 hsz (by omega) hrw)
          have H7 := Lib.hid h7
          have hgA1 := hgA.1
          have hgA2 := hgA.2
          simp only [World.size_alloc] at hgA1
          clear hat h7 hrw hsz HA HRd hgA
          go_wp2_with fail
          refine hd.out.mono ?_
          rintro e w3 ⟨rfl, hb3⟩
          have c : ∀ (i : Nat) u, w2.cell? ⟨w.heap.size, i, none⟩ = some u → w3.cell? ⟨w.heap.size, i, none⟩ = some u := fun i u hu => (hb3.cell (p := ⟨w.heap.size, i, none⟩) (show w.heap.size < w2.heap.size by omega)).trans hu
          have c' : ∀ (i : Nat) u, w2.cell? ⟨g, i, none⟩ = some u → w3.cell? ⟨g, i, none⟩ = some u := fun i u hu => (hb3.cell (p := ⟨g, i, none⟩) hgA2).trans hu
          have f : ∀ (i : Nat), w2.frozen? ⟨w.heap.size, i, none⟩ = false → w3.frozen? ⟨w.heap.size, i, none⟩ = false := fun i hu => (hb3.frozen (p := ⟨w.heap.size, i, none⟩) (show w.heap.size < w2.heap.size by omega)).trans hu
          have p0 := c 0 _ q0
          have p1 := c 1 _ q1
          have p2 := c 2 _ q2
          have p3 := c' _ _ h4
          have p4 := c' _ _ h5
          have p5 := c' _ _ h6
          have f0 := f 0 z0
          have f1 := f 1 z1
          have f2 := f 2 z2
          have n1 : ¬ g = w.heap.size := by omega
          have n2 : ¬ w.heap.size = g := by omega
          have HB4 := Lib.hid (HB3.out.trans (hb3.mono HB3.out.size))
          have hr3 : ReadsIn w3 (fun g => w.heap.size + 1 ≤ g ∧ g < w3.heap.size) (.slice px x.list.length cx) x.list := H7.out.kept (fun g u o hg hc => (hb3.cell (p := ⟨g, o, none⟩) hg.2).trans hc) (fun g hg => by
            have h1 := hg.1
            have h2 := hg.2
            simp only [World.size_alloc] at h1
            exact ⟨h1, Nat.lt_of_lt_of_le h2 hb3.size⟩)
          have hR : ReadsIn (((w3.setCell ⟨w.heap.size, 0, none⟩ (.bool x.isList)).setCell ⟨w.heap.size, 1, none⟩ (.string ⟨x.text.toArray⟩)).setCell ⟨w.heap.size, 2, none⟩ (.slice px x.list.length cx)) (fun g => w.heap.size ≤ g ∧ g < w3.heap.size) (.slice px x.list.length cx) x.list :=
            ReadsIn.kept hr3 (fun g u o hg hc => by
              have h1 := hg.1
              rw [World.cell?_setCell_other _ _ _ _ (fun e => by cases e; omega), World.cell?_setCell_other _ _ _ _ (fun e => by cases e; omega), World.cell?_setCell_other _ _ _ _ (fun e => by cases e; omega)]
              exact hc) (fun g hg => ⟨by have := hg.1; omega, hg.2⟩)
          have HR3 := Lib.hid hR
          clear c c' f q0 q1 q2 z0 z1 z2 h4 h5 h6 hb3 H7 hd hr3 hR HW
          have hW2 : ∀ v0 v1 v2, Below w.heap.size w (((w3.setCell ⟨w.heap.size, 0, none⟩ v0).setCell ⟨w.heap.size, 1, none⟩ v1).setCell ⟨w.heap.size, 2, none⟩ v2) := fun v0 v1 v2 => ((HB4.out.setCell (p := ⟨w.heap.size, 0, none⟩) (Nat.le_refl _) v0).setCell (p := ⟨w.heap.size, 1, none⟩) (Nat.le_refl _) v1).setCell (p := ⟨w.heap.size, 2, none⟩) (Nat.le_refl _) v2
          have HW2 := Lib.hid hW2
          clear hW2
          cases hq : deep x 12 with
          | true =>
            go_wp2_with fail
            refine bodyPost_ret (results_item1 rfl _ _ w.heap.size (.bool false) (.string ⟨#[]⟩) (.slice none 0 0) rfl ?_ ?_ ?_) rfl ?_
            · simp [go_sem, p0]
            · simp [go_sem, p1]
            · simp [go_sem, p2]
            refine ⟨HW2.out _ _ _, Item.none, 41, none, 0, rfl, Lib.hid (Hdec.out.trans (by rw [hq]; rfl)), Lib.hid (ReadsIn.nil _ _)⟩
          | false =>
            go_wp2_with fail
            refine bodyPost_ret (results_item1 rfl _ _ w.heap.size (.bool x.isList) (.string ⟨x.text.toArray⟩) (.slice px x.list.length cx) rfl ?_ ?_ ?_) rfl ?_
            · simp [go_sem, p0]
            · simp [go_sem, p1]
            · simp [go_sem, p2]
            refine ⟨HW2.out _ _ _, x, 0, px, cx, rfl, Lib.hid (Hdec.out.trans (by rw [hq]; rfl)), Lib.hid ?_⟩
            have := HR3.out
            simp only [World.size_setCell]
            exact this
      · have h2 : ((xs.length : Int) != 1) = true := by simp; omega
        have H := Lib.hid (decode_many Hl.out HA.out hx1)
        clear hx1 HRd
        go_wp2_with fail
        refine bodyPost_ret (results_item1 rfl _ _ w.heap.size (.bool false) (.string ⟨#[]⟩) (.slice none 0 0) rfl ?_ ?_ ?_) rfl ?_
        · simp [go_sem, q0]
        · simp [go_sem, q1]
        · simp [go_sem, q2]
        exact ⟨HW.out _ _ _, Item.none, 40, none, 0, rfl, H, Lib.hid (ReadsIn.nil _ _)⟩
    · have H := Lib.hid (decode_none Hl.out HA.out)
      go_wp2_with fail
      refine bodyPost_ret (results_item1 rfl _ _ w.heap.size (.bool false) (.string ⟨#[]⟩) (.slice none 0 0) rfl ?_ ?_ ?_) rfl ?_
      · simp [go_sem, q0]
      · simp [go_sem, q1]
      · simp [go_sem, q2]
      exact ⟨HW.out _ _ _, Item.none, 40, none, 0, rfl, H, Lib.hid (ReadsIn.nil _ _)⟩
end Go.Proofs.YthicdhnjincflaaGreatDoor
