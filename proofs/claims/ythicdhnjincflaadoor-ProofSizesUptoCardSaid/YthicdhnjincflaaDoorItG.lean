/- Items that a call makes: rows of items, what they read as. -/
import Derived.Test.YthicdhnjincflaaDoorAllB
import Derived.Test.YthicdhnjincflaaDoorKrcC
import Derived.Test.YthicdhnjincflaaDoorShoT
import Derived.Test.YthicdhnjincflaaDoorTxtS
namespace Go.Proofs.YthicdhnjincflaaDoor
open Go.RowKit Go.Shelf Go.Lib
attribute [local go_sem] Oper.semAt_some

/-- items that lie in blocks from lo on -/
def RIn (w : World) (lo : Nat) (v : Value) (xs : List Item) : Prop := ReadsIn w (fun g => lo ≤ g ∧ g < w.heap.size) v xs
theorem RIn.below {w w' : World} {lo : Nat} {v : Value} {xs : List Item} (h : RIn w lo v xs) (hb : Below w.heap.size w w') : RIn w' lo v xs :=
  ReadsIn.kept h (fun g _ o hg hc => (hb.cell (p := ⟨g, o, none⟩) hg.2).trans hc) (fun _ hg => ⟨hg.1, Nat.lt_of_lt_of_le hg.2 hb.size⟩)
theorem RIn.mono {w : World} {lo lo' : Nat} {v : Value} {xs : List Item} (h : RIn w lo v xs) (hl : lo' ≤ lo) : RIn w lo' v xs := ReadsIn.mono h (fun _ hg => ⟨Nat.le_trans hl hg.1, hg.2⟩)
theorem RIn.nil (w : World) (lo : Nat) : RIn w lo (.slice none 0 0) [] := ReadsIn.nil _ _
theorem RIn.form {w : World} {lo : Nat} {v : Value} {xs : List Item} (h : RIn w lo v xs) : ∃ p cap, v = .slice p xs.length cap := ReadsIn.form h
theorem RIn.reads {w : World} {lo : Nat} {v : Value} {xs : List Item} (h : RIn w lo v xs) : Reads w w.heap.size v xs := ReadsIn.mono h (fun _ hg => hg.2)
/-- a store below -/
theorem RIn.store {w : World} {lo : Nat} {v : Value} {xs : List Item} (h : RIn w lo v xs) {g j : Nat} (hg : g < lo) (u : Value) : RIn (w.setCell ⟨g, j, none⟩ u) lo v xs :=
  ReadsIn.kept h (fun g' _ o hg' hc => (World.cell?_setCell_other _ _ _ _ (fun e => by cases e; omega)).trans hc) (fun _ hg' => ⟨hg'.1, by rw [World.size_setCell]; exact hg'.2⟩)
/-- an item as a value -/
def itemV (x : Item) (v : Value) : Value := .agg #[.bool x.isList, .string ⟨x.text.toArray⟩, v]
/-- what a call gives that makes an item -/
def GivesI (w : World) (x : Item) (e : Ending) (w' : World) : Prop := ∃ v, e = .returned (itemV x v) ∧ RIn w' w.heap.size v x.list ∧ Below w.heap.size w w'
/-- what a call gives that makes a list of items -/
def GivesL (w : World) (l : List Item) (e : Ending) (w' : World) : Prop := ∃ p n c, e = .returned (.agg #[.bool true, .string ⟨#[]⟩, .slice p n c]) ∧ RIn w' w.heap.size (.slice p n c) l ∧ Below w.heap.size w w'
theorem three_other {W : World} {b j g : Nat} {u : Value} (h : W.cell? ⟨b, j, none⟩ = some u) (hne : b ≠ g) (v0 v1 v2 : Value) : (((W.setCell ⟨g, 0, none⟩ v0).setCell ⟨g, 1, none⟩ v1).setCell ⟨g, 2, none⟩ v2).cell? ⟨b, j, none⟩ = some u := by
  rw [World.cell?_setCell_other _ _ _ _ (fun e => by cases e; exact hne rfl), World.cell?_setCell_other _ _ _ _ (fun e => by cases e; exact hne rfl), World.cell?_setCell_other _ _ _ _ (fun e => by cases e; exact hne rfl)]
  exact h
def itT (s : ByteArray) : Item := .mk false s.data.toList []
def itN (n : Nat) : Item := .mk false (num n) []
def itL (l : List Item) : Item := .mk true [] l
def itTs (l : List ByteArray) : Item := itL (l.map itT)
theorem bytes_back (s : ByteArray) : (⟨s.data.toList.toArray⟩ : ByteArray) = s := rfl
/-- a row of items just laid -/
theorem reads_new (w : World) (lo n : Nat) (l : List (Item × Value)) (hn : l.length = n) (hlo : lo ≤ w.heap.size) (h : ∀ q ∈ l, RIn w lo q.2 q.1.list) :
    RIn (w.alloc (.cells (itemCells l).toArray 58)) lo (.slice (some ⟨w.heap.size, 0, none⟩) n n) (l.map Prod.fst) := by
  subst hn
  have hb : Below w.heap.size w (w.alloc (.cells (itemCells l).toArray 58)) := (Below.refl _ _).alloc (Nat.le_refl _) _
  have hm : (l.map Prod.fst).length = l.length := by simp
  unfold RIn
  rw [← hm]
  refine ReadsIn.mk ⟨hlo, by simp⟩ (fun i x hx => ?_) (Nat.le_refl _)
  rw [List.getElem?_map] at hx
  cases hq : l[i]? with
  | none => rw [hq] at hx; cases hx
  | some q =>
    rw [hq] at hx
    cases hx
    have hc := fun j (hj : j < 3) => itemCells_at l i j q hq hj
    have hcell : ∀ j u, (itemCells l)[j]? = some u → (w.alloc (.cells (itemCells l).toArray 58)).cell? ⟨w.heap.size, j, none⟩ = some u := fun j u hu => cells_at w _ _ j u hu
    rw [Nat.zero_add]
    refine ⟨hcell _ _ (by simpa using hc 0 (by omega)), hcell _ _ (by simpa using hc 1 (by omega)), q.2, hcell _ _ (by simpa using hc 2 (by omega)), ?_⟩
    exact (h q (List.mem_of_getElem? hq)).below hb
/-- the cell of the result, behind calls -/
theorem zero_cells {w W : World} (hb : Below (w.alloc (.cells #[.bool false, .string ⟨#[]⟩, .slice none 0 0] 58)).heap.size (w.alloc (.cells #[.bool false, .string ⟨#[]⟩, .slice none 0 0] 58)) W) : W.cell? ⟨w.heap.size, 0, none⟩ = some (.bool false) ∧ W.cell? ⟨w.heap.size, 1, none⟩ = some (.string ⟨#[]⟩) ∧ W.cell? ⟨w.heap.size, 2, none⟩ = some (.slice none 0 0) ∧
    W.frozen? ⟨w.heap.size, 0, none⟩ = false ∧ W.frozen? ⟨w.heap.size, 1, none⟩ = false ∧ W.frozen? ⟨w.heap.size, 2, none⟩ = false := by
  have hx : W.heap[w.heap.size]? = some (.cells #[.bool false, .string ⟨#[]⟩, .slice none 0 0] 58 (0, 0)) := (hb.block _ (by simp)).trans (cells3_new w _ _ _ _)
  refine ⟨by rw [World.cell?, hx]; rfl, by rw [World.cell?, hx]; rfl, by rw [World.cell?, hx]; rfl, by rw [World.frozen?, hx]; simp, by rw [World.frozen?, hx]; simp, by rw [World.frozen?, hx]; simp⟩
theorem three_below {w W : World} (hb : Below w.heap.size w W) (v0 v1 v2 : Value) : Below w.heap.size w (((W.setCell ⟨w.heap.size, 0, none⟩ v0).setCell ⟨w.heap.size, 1, none⟩ v1).setCell ⟨w.heap.size, 2, none⟩ v2) :=
  ((hb.setCell (p := ⟨w.heap.size, 0, none⟩) (Nat.le_refl _) v0).setCell (p := ⟨w.heap.size, 1, none⟩) (Nat.le_refl _) v1).setCell (p := ⟨w.heap.size, 2, none⟩) (Nat.le_refl _) v2
theorem three_reads {w W : World} {v : Value} {xs : List Item} (h : RIn W (w.heap.size + 1) v xs) (v0 v1 v2 : Value) : RIn (((W.setCell ⟨w.heap.size, 0, none⟩ v0).setCell ⟨w.heap.size, 1, none⟩ v1).setCell ⟨w.heap.size, 2, none⟩ v2) (w.heap.size + 1) v xs :=
  ((h.store (Nat.lt_succ_self _) v0).store (Nat.lt_succ_self _) v1).store (Nat.lt_succ_self _) v2
theorem wpList_appendJ {ops : Array Oper} {rest : List Oper} {o : Oper} {a : Act} {w : World} {Q : Exit → Act → World → Prop} (hgd : o.guard = none) (s x : Operand)
    (ho : o.op = .call { callee := .builtin .append, args := #[s, x], argTypes := #[56, 56] })
    (base : Nat) (v : Value) (l : List (Item × Value)) (hs : a.eval s = v) (hown : OwnI base w v l) (ad : Addr) (c : Nat) (q : Item × Value) (hq : ∃ p n c, q.2 = .slice p n c) (hx : a.eval x = .slice (some ad) 1 c)
    (hnews : ∀ j u, (itemCells [q])[j]? = some u → w.cell? (ad.add j) = some u) (h63 : l.length ≤ 1099511627776) (hbase : base ≤ w.heap.size)
    (hK : ∀ v' w', OwnI base w' v' (l ++ [q]) → w.grownBy w' v.ownBlock → wpList Tryd.prog ops Q rest (a.put o.dst v') w') : wpList Tryd.prog ops Q (o :: rest) a w := by
  obtain ⟨v', w', hrun, r1, r2, _⟩ := run_appendI hown ad c q hq hnews h63 hbase o.type
  refine wpList_plain hgd fun _ hK' => ?_
  unfold Oper.wp
  simp [execOp, ho, resolve, invoke, builtin, hs, hx, hrun, Result.andThen]
  exact hK' _ _ (hK v' w' r1 r2)
theorem OwnI.lt' {base : Nat} {w : World} {v : Value} {l : List (Item × Value)} (h : OwnI base w v l) : ∀ k, v.ownBlock = some k → base ≤ k ∧ k < w.heap.size := World.ownsRow.lt h
theorem OwnI.form' {base : Nat} {w : World} {v : Value} {l : List (Item × Value)} (h : OwnI base w v l) : ∃ p c, v = .slice p l.length c := by
  obtain ⟨_, ⟨rfl, h0⟩ | ⟨g, cap, cur, rfl, _⟩⟩ := h
  · exact ⟨none, 0, by rw [h0]⟩
  · exact ⟨_, _, rfl⟩
theorem OwnI.after {base : Nat} {w w' : World} {v : Value} {l : List (Item × Value)} (h : OwnI base w v l) (hb : Below w.heap.size w w') : OwnI base w' v l := by
  have hl := h.lt'
  obtain ⟨h1, h2⟩ := h
  refine ⟨h1, ?_⟩
  rcases h2 with h2 | ⟨g, cap, cur, hv, hg, hh, r⟩
  · exact .inl h2
  · exact .inr ⟨g, cap, cur, hv, hg, by rw [hb.block g (hl g (by rw [hv]; rfl)).2]; exact hh, r⟩
/-- a row of texts, as items -/
def textRow (l : List ByteArray) : List (Item × Value) := l.map fun s => (itT s, .slice none 0 0)
theorem OwnI.texts {base : Nat} {w : World} {v : Value} {l : List ByteArray} (h : OwnI base w v (textRow l)) : RIn w base v (l.map itT) := by
  have h' := h
  have hm : (textRow l).map Prod.fst = l.map itT := by unfold textRow; rw [List.map_map]; rfl
  obtain ⟨_, ⟨rfl, hn⟩ | ⟨g, cap, cur, rfl, hb, hg, hcap, _⟩⟩ := h
  · obtain rfl : l = [] := by
      have := List.length_eq_zero_iff.1 hn
      unfold textRow at this
      simpa using this
    exact RIn.nil _ _
  · rw [← hm]
    have hlen : ((textRow l).map Prod.fst).length = (textRow l).length := by simp
    unfold RIn
    rw [← hlen]
    refine ReadsIn.mk ⟨hb, (Array.getElem?_eq_some_iff.1 hg).1⟩ (fun i x hx => ?_) (by rw [hlen]; exact hcap)
    rw [List.getElem?_map] at hx
    cases hq : (textRow l)[i]? with
    | none => rw [hq] at hx; cases hx
    | some q =>
      rw [hq] at hx
      cases hx
      have hi := (List.getElem?_eq_some_iff.1 hq).1
      have hc := fun j (hj : j < 3) => World.ownsRow.cellAt h' (i * 3 + j) (by omega)
      have hq2 : q.2 = .slice none 0 0 ∧ q.1.list = [] := by
        unfold textRow at hq
        rw [List.getElem?_map] at hq
        cases hs : l[i]? with
        | none => rw [hs] at hq; cases hq
        | some s => rw [hs] at hq; cases hq; exact ⟨rfl, rfl⟩
      rw [Nat.zero_add]
      refine ⟨?_, ?_, q.2, ?_, ?_⟩
      · have := hc 0 (by omega); rw [itemCells_at _ i 0 q hq (by omega)] at this; simpa using this
      · have := hc 1 (by omega); rw [itemCells_at _ i 1 q hq (by omega)] at this; simpa using this
      · have := hc 2 (by omega); rw [itemCells_at _ i 2 q hq (by omega)] at this; simpa using this
      · rw [hq2.1, hq2.2]; exact ReadsIn.nil _ _
theorem addr_add' (g j : Nat) : (⟨g, 0, none⟩ : Addr).add j = ⟨g, j, none⟩ := by
  unfold Addr.add; split
  · rename_i h0; subst h0; rfl
  · simp
/-- a row of items that the call owns, each element's list in blocks from lo on -/
theorem OwnI.rin {base lo : Nat} {w : World} {v : Value} {l : List (Item × Value)} (h : OwnI base w v l) (hlo : lo ≤ base) (hr : ∀ q ∈ l, RIn w lo q.2 q.1.list) : RIn w lo v (l.map Prod.fst) := by
  have h' := h
  obtain ⟨_, ⟨rfl, hn⟩ | ⟨g, cap, cur, rfl, hb, hg, hcap, _⟩⟩ := h
  · obtain rfl : l = [] := List.length_eq_zero_iff.1 hn
    exact RIn.nil _ _
  · have hlen : (l.map Prod.fst).length = l.length := by simp
    unfold RIn
    rw [← hlen]
    refine ReadsIn.mk ⟨Nat.le_trans hlo hb, (Array.getElem?_eq_some_iff.1 hg).1⟩ (fun i x hx => ?_) (by rw [hlen]; exact hcap)
    rw [List.getElem?_map] at hx
    cases hq : l[i]? with
    | none => rw [hq] at hx; cases hx
    | some q =>
      rw [hq] at hx
      cases hx
      have hi := (List.getElem?_eq_some_iff.1 hq).1
      have hc := fun j (hj : j < 3) => World.ownsRow.cellAt h' (i * 3 + j) (by omega)
      rw [Nat.zero_add]
      refine ⟨?_, ?_, q.2, ?_, hr q (List.mem_of_getElem? hq)⟩
      · have := hc 0 (by omega); rw [itemCells_at _ i 0 q hq (by omega)] at this; simpa using this
      · have := hc 1 (by omega); rw [itemCells_at _ i 1 q hq (by omega)] at this; simpa using this
      · have := hc 2 (by omega); rw [itemCells_at _ i 2 q hq (by omega)] at this; simpa using this
/-- a row of items that the call owns, whose lists lie in other blocks of its own -/
def RowI (B : Nat) (W : World) (v : Value) (l : List (Item × Value)) : Prop := OwnI B W v l ∧ ∀ q ∈ l, ReadsIn W (fun g => B ≤ g ∧ g < W.heap.size ∧ v.ownBlock ≠ some g) q.2 q.1.list
theorem RowI.nil (B : Nat) (W : World) : RowI B W (.slice none 0 0) [] := ⟨OwnI.nil _ _, fun _ h => by cases h⟩
theorem RowI.after {B : Nat} {W W' : World} {v : Value} {l : List (Item × Value)} (h : RowI B W v l) (hb : Below W.heap.size W W') : RowI B W' v l :=
  ⟨h.1.after hb, fun q hq => (h.2 q hq).kept (fun g _ o hg hc => (hb.cell (p := ⟨g, o, none⟩) hg.2.1).trans hc) (fun _ hg => ⟨hg.1, Nat.lt_of_lt_of_le hg.2.1 hb.size, hg.2.2⟩)⟩
theorem RowI.snoc {B : Nat} {W W' : World} {v v' : Value} {l : List (Item × Value)} {q : Item × Value} (h : RowI B W v l) (hrx : ReadsIn W (fun g => B ≤ g ∧ g < W.heap.size ∧ v.ownBlock ≠ some g) q.2 q.1.list)
    (hown : OwnI B W' v' (l ++ [q])) (hg : W.grownBy W' v.ownBlock) (hv : v'.ownBlock = v.ownBlock ∨ v'.ownBlock = some W.heap.size) : RowI B W' v' (l ++ [q]) := by
  have hA : ∀ {u : Value} {ys : List Item}, ReadsIn W (fun g => B ≤ g ∧ g < W.heap.size ∧ v.ownBlock ≠ some g) u ys → ReadsIn W' (fun g => B ≤ g ∧ g < W'.heap.size ∧ v'.ownBlock ≠ some g) u ys := fun hr =>
    hr.kept (fun g u o hg' hc => (World.cell?_of_block (a := ⟨g, o, none⟩) (hg.block g hg'.2.1 (fun e => hg'.2.2 e.symm))).trans hc) (fun g hg' => ⟨hg'.1, Nat.lt_of_lt_of_le hg'.2.1 hg.size, fun e => by
      rcases hv with hv | hv
      · exact hg'.2.2 (hv ▸ e)
      · rw [hv] at e; cases e; omega⟩)
  refine ⟨hown, fun q' hq => ?_⟩
  rcases List.mem_append.1 hq with hq | hq
  · exact hA (h.2 q' hq)
  · simp at hq; rw [hq]; exact hA hrx
theorem RowI.rin {B : Nat} {W : World} {v : Value} {l : List (Item × Value)} (h : RowI B W v l) : RIn W B v (l.map Prod.fst) :=
  h.1.rin (Nat.le_refl _) (fun q hq => (h.2 q hq).mono (fun _ hg => ⟨hg.1, hg.2.1⟩))
theorem RowI.form {B : Nat} {W : World} {v : Value} {l : List (Item × Value)} (h : RowI B W v l) : ∃ p c, v = .slice p l.length c := h.1.form'
/-- an item that was made behind a world, to be appended to a row that was there -/
theorem RowI.fresh {B : Nat} {W W' : World} {v : Value} {l : List (Item × Value)} (h : RowI B W v l) (hB : B ≤ W.heap.size) {u : Value} {xs : List Item} (hu : RIn W' W.heap.size u xs) : ReadsIn W' (fun g => B ≤ g ∧ g < W'.heap.size ∧ v.ownBlock ≠ some g) u xs := by
  exact ReadsIn.mono hu (fun g hg => ⟨Nat.le_trans hB hg.1, hg.2, fun e => by have := (h.1.lt' g e).2; omega⟩)
end Go.Proofs.YthicdhnjincflaaDoor
