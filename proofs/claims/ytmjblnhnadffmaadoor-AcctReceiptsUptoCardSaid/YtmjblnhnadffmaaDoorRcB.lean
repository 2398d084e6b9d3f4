/- Items that a call makes: rows of items, what they read as. -/
import Derived.Test.YtmjblnhnadffmaaDoorAcqE
import Derived.Test.YtmjblnhnadffmaaDoorItmO
namespace Go.Proofs.YtmjblnhnadffmaaDoor
open Go.RowKit Go.Shelf Go.Lib
attribute [local go_sem] Oper.semAt_some

/-- items that lie in blocks from lo on -/
def RIn (w : World) (lo : Nat) (v : Value) (xs : List Item) : Prop := ReadsIn w (fun g => lo ≤ g ∧ g < w.heap.size) v xs
theorem RIn.below {w w' : World} {lo : Nat} {v : Value} {xs : List Item} (h : RIn w lo v xs) (hb : Below w.heap.size w w') : RIn w' lo v xs :=
  ReadsIn.kept h (fun g _ o hg hc => (hb.cell (p := ⟨g, o, none⟩) hg.2).trans hc) (fun _ hg => ⟨hg.1, Nat.lt_of_lt_of_le hg.2 hb.size⟩)
theorem RIn.mono {w : World} {lo lo' : Nat} {v : Value} {xs : List Item} (h : RIn w lo v xs) (hl : lo' ≤ lo) : RIn w lo' v xs := ReadsIn.mono h (fun _ hg => ⟨Nat.le_trans hl hg.1, hg.2⟩)
theorem RIn.nil (w : World) (lo : Nat) : RIn w lo (.slice none 0 0) [] := ReadsIn.nil _ _
theorem RIn.form {w : World} {lo : Nat} {v : Value} {xs : List Item} (h : RIn w lo v xs) : ∃ p cap, v = .slice p xs.length cap := ReadsIn.form h
theorem RIn.reads {w : World} {lo : Nat} {v : Value} {xs : List Item} (h : RIn w lo v xs) : Reads w w.heap.size v xs := ReadsIn.mono h (fun _ hg => hg.2)
/-- a store below -/
theorem RIn.store {w : World} {lo : Nat} {v : Value} {xs : List Item} (h : RIn w lo v xs) {g j : Nat} (hg : g < lo) (u : Value) : RIn (w.setCell ⟨g, j, none⟩ u) lo v xs :=
  ReadsIn.kept h (fun g' _ o hg' hc => (World.cell?_setCell_other _ _ _ _ (fun e => by cases e; omega)).trans hc) (fun _ hg' => ⟨hg'.1, by rw [World.size_setCell]; exact hg'.2⟩)
/-- an item as a value -/
def itemV (x : Item) (v : Value) : Value := .agg #[.bool x.isList, .string ⟨x.text.toArray⟩, v]
/-- what a call gives that makes an item -/
def GivesI (w : World) (x : Item) (e : Ending) (w' : World) : Prop := ∃ v, e = .returned (itemV x v) ∧ RIn w' w.heap.size v x.list ∧ Below w.heap.size w w'
/-- what a call gives that makes a list of items -/
def GivesL (w : World) (l : List Item) (e : Ending) (w' : World) : Prop := ∃ p n c, e = .returned (.agg #[.bool true, .string ⟨#[]⟩, .slice p n c]) ∧ RIn w' w.heap.size (.slice p n c) l ∧ Below w.heap.size w w'
theorem three_other {W : World} {b j g : Nat} {u : Value} (h : W.cell? ⟨b, j, none⟩ = some u) (hne : b ≠ g) (v0 v1 v2 : Value) : (((W.setCell ⟨g, 0, none⟩ v0).setCell ⟨g, 1, none⟩ v1).setCell ⟨g, 2, none⟩ v2).cell? ⟨b, j, none⟩ = some u := by
  rw [World.cell?_setCell_other _ _ _ _ (fun e => by cases e; exact hne rfl), World.cell?_setCell_other _ _ _ _ (fun e => by cases e; exact hne rfl), World.cell?_setCell_other _ _ _ _ (fun e => by cases e; exact hne rfl)]
  exact h
def itT (s : ByteArray) : Item := .mk false s.data.toList []
def itN (n : Nat) : Item := .mk false (num n) []
def itL (l : List Item) : Item := .mk true [] l
def itTs (l : List ByteArray) : Item := itL (l.map itT)
theorem bytes_back (s : ByteArray) : (⟨s.data.toList.toArray⟩ : ByteArray) = s := rfl
/-- a row of items just laid -/
theorem reads_new (w : World) (lo n : Nat) (l : List (Item × Value)) (hn : l.length = n) (hlo : lo ≤ w.heap.size) (h : ∀ q ∈ l, RIn w lo q.2 q.1.list) :
    RIn (w.alloc (.cells (itemCells l).toArray 51)) lo (.slice (some ⟨w.heap.size, 0, none⟩) n n) (l.map Prod.fst) := by
  subst hn
  have hb : Below w.heap.size w (w.alloc (.cells (itemCells l).toArray 51)) := (Below.refl _ _).alloc (Nat.le_refl _) _
  have hm : (l.map Prod.fst).length = l.length := by simp
  unfold RIn
  rw [← hm]
  refine ReadsIn.mk ⟨hlo, by simp⟩ (fun i x hx => ?_) (Nat.le_refl _)
  rw [List.getElem?_map] at hx
  cases hq : l[i]? with
  | none => rw [hq] at hx; cases hx
  | some q =>
    rw [hq] at hx
    cases hx
    have hc := fun j (hj : j < 3) => itemCells_at l i j q hq hj
    have hcell : ∀ j u, (itemCells l)[j]? = some u → (w.alloc (.cells (itemCells l).toArray 51)).cell? ⟨w.heap.size, j, none⟩ = some u := fun j u hu => cells_at w _ _ j u hu
    rw [Nat.zero_add]
    refine ⟨hcell _ _ (by simpa using hc 0 (by omega)), hcell _ _ (by simpa using hc 1 (by omega)), q.2, hcell _ _ (by simpa using hc 2 (by omega)), ?_⟩
    exact (h q (List.mem_of_getElem? hq)).below hb
/-- the cell of the result, behind calls -/
theorem zero_cells {w W : World} (hb : Below (w.alloc (.cells #[.bool false, .string ⟨#[]⟩, .slice none 0 0] 51)).heap.size (w.alloc (.cells #[.bool false, .string ⟨#[]⟩, .slice none 0 0] 51)) W) : W.cell? ⟨w.heap.size, 0, none⟩ = some (.bool false) ∧ W.cell? ⟨w.heap.size, 1, none⟩ = some (.string ⟨#[]⟩) ∧ W.cell? ⟨w.heap.size, 2, none⟩ = some (.slice none 0 0) ∧
    W.frozen? ⟨w.heap.size, 0, none⟩ = false ∧ W.frozen? ⟨w.heap.size, 1, none⟩ = false ∧ W.frozen? ⟨w.heap.size, 2, none⟩ = false := by
  have hx : W.heap[w.heap.size]? = some (.cells #[.bool false, .string ⟨#[]⟩, .slice none 0 0] 51 (0, 0)) := (hb.block _ (by simp)).trans (cells3_new w _ _ _ _)
  refine ⟨by rw [World.cell?, hx]; rfl, by rw [World.cell?, hx]; rfl, by rw [World.cell?, hx]; rfl, by rw [World.frozen?, hx]; simp, by rw [World.frozen?, hx]; simp, by rw [World.frozen?, hx]; simp⟩
theorem three_below {w W : World} (hb : Below w.heap.size w W) (v0 v1 v2 : Value) : Below w.heap.size w (((W.setCell ⟨w.heap.size, 0, none⟩ v0).setCell ⟨w.heap.size, 1, none⟩ v1).setCell ⟨w.heap.size, 2, none⟩ v2) :=
  ((hb.setCell (p := ⟨w.heap.size, 0, none⟩) (Nat.le_refl _) v0).setCell (p := ⟨w.heap.size, 1, none⟩) (Nat.le_refl _) v1).setCell (p := ⟨w.heap.size, 2, none⟩) (Nat.le_refl _) v2
theorem three_reads {w W : World} {v : Value} {xs : List Item} (h : RIn W (w.heap.size + 1) v xs) (v0 v1 v2 : Value) : RIn (((W.setCell ⟨w.heap.size, 0, none⟩ v0).setCell ⟨w.heap.size, 1, none⟩ v1).setCell ⟨w.heap.size, 2, none⟩ v2) (w.heap.size + 1) v xs :=
  ((h.store (Nat.lt_succ_self _) v0).store (Nat.lt_succ_self _) v1).store (Nat.lt_succ_self _) v2
theorem wpList_appendJ {ops : Array Oper} {rest : List Oper} {o : Oper} {a : Act} {w : World} {Q : Exit → Act → World → Prop} (hgd : o.guard = none) (s x : Operand)
    (ho : o.op = .call { callee := .builtin .append, args := #[s, x], argTypes := #[49, 49] })
    (base : Nat) (v : Value) (l : List (Item × Value)) (hs : a.eval s = v) (hown : OwnI base w v l) (ad : Addr) (c : Nat) (q : Item × Value) (hq : ∃ p n c, q.2 = .slice p n c) (hx : a.eval x = .slice (some ad) 1 c)
    (hnews : ∀ j u, (itemCells [q])[j]? = some u → w.cell? (ad.add j) = some u) (h63 : l.length ≤ 1099511627776) (hbase : base ≤ w.heap.size)
    (hK : ∀ v' w', OwnI base w' v' (l ++ [q]) → w.grownBy w' v.ownBlock → wpList Tryd.prog ops Q rest (a.put o.dst v') w') : wpList Tryd.prog ops Q (o :: rest) a w := by
  obtain ⟨v', w', hrun, r1, r2, _⟩ := run_appendI hown ad c q hq hnews h63 hbase o.type
  refine wpList_plain hgd fun _ hK' => ?_
  unfold Oper.wp
  simp [execOp, ho, resolve, invoke, builtin, hs, hx, hrun, Result.andThen]
  exact hK' _ _ (hK v' w' r1 r2)
theorem OwnI.lt' {base : Nat} {w : World} {v : Value} {l : List (Item × Value)} (h : OwnI base w v l) : ∀ k, v.ownBlock = some k → base ≤ k ∧ k < w.heap.size := World.ownsRow.lt h
theorem OwnI.form' {base : Nat} {w : World} {v : Value} {l : List (Item × Value)} (h : OwnI base w v l) : ∃ p c, v = .slice p l.length c := by
  obtain ⟨_, ⟨rfl, h0⟩ | ⟨g, cap, cur, rfl, _⟩⟩ := h
  · exact ⟨none, 0, by rw [h0]⟩
  · exact ⟨_, _, rfl⟩
theorem OwnI.after {base : Nat} {w w' : World} {v : Value} {l : List (Item × Value)} (h : OwnI base w v l) (hb : Below w.heap.size w w') : OwnI base w' v l := by
  have hl := h.lt'
  obtain ⟨h1, h2⟩ := h
  refine ⟨h1, ?_⟩
  rcases h2 with h2 | ⟨g, cap, cur, hv, hg, hh, r⟩
  · exact .inl h2
  · exact .inr ⟨g, cap, cur, hv, hg, by rw [hb.block g (hl g (by rw [hv]; rfl)).2]; exact hh, r⟩
/-- a row of texts, as items -/
def textRow (l : List ByteArray) : List (Item × Value) := l.map fun s => (itT s, .slice none 0 0)
theorem OwnI.texts {base : Nat} {w : World} {v : Value} {l : List ByteArray} (h : OwnI base w v (textRow l)) : RIn w base v (l.map itT) := by
  have h' := h
  have hm : (textRow l).map Prod.fst = l.map itT := by unfold textRow; rw [List.map_map]; rfl
  obtain ⟨_, ⟨rfl, hn⟩ | ⟨g, cap, cur, rfl, hb, hg, hcap, _⟩⟩ := h
  · obtain rfl : l = [] := by
      have := List.length_eq_zero_iff.1 hn
      unfold textRow at this
      simpa using this
    exact RIn.nil _ _
  · rw [← hm]
    have hlen : ((textRow l).map Prod.fst).length = (textRow l).length := by simp
    unfold RIn
    rw [← hlen]
    refine ReadsIn.mk ⟨hb, (Array.getElem?_eq_some_iff.1 hg).1⟩ (fun i x hx => ?_) (by rw [hlen]; exact hcap)
    rw [List.getElem?_map] at hx
    cases hq : (textRow l)[i]? with
    | none => rw [hq] at hx; cases hx
    | some q =>
      rw [hq] at hx
      cases hx
      have hi := (List.getElem?_eq_some_iff.1 hq).1
      have hc := fun j (hj : j < 3) => World.ownsRow.cellAt h' (i * 3 + j) (by omega)
      have hq2 : q.2 = .slice none 0 0 ∧ q.1.list = [] := by
        unfold textRow at hq
        rw [List.getElem?_map] at hq
        cases hs : l[i]? with
        | none => rw [hs] at hq; cases hq
        | some s => rw [hs] at hq; cases hq; exact ⟨rfl, rfl⟩
      rw [Nat.zero_add]
      refine ⟨?_, ?_, q.2, ?_, ?_⟩
      · have := hc 0 (by omega); rw [itemCells_at _ i 0 q hq (by omega)] at this; simpa using this
      · have := hc 1 (by omega); rw [itemCells_at _ i 1 q hq (by omega)] at this; simpa using this
      · have := hc 2 (by omega); rw [itemCells_at _ i 2 q hq (by omega)] at this; simpa using this
      · rw [hq2.1, hq2.2]; exact ReadsIn.nil _ _
theorem addr_add' (g j : Nat) : (⟨g, 0, none⟩ : Addr).add j = ⟨g, j, none⟩ := by
  unfold Addr.add; split
  · rename_i h0; subst h0; rfl
  · simp
/-- a row of items that the call owns, each element's list in blocks from lo on -/
theorem OwnI.rin {base lo : Nat} {w : World} {v : Value} {l : List (Item × Value)} (h : OwnI base w v l) (hlo : lo ≤ base) (hr : ∀ q ∈ l, RIn w lo q.2 q.1.list) : RIn w lo v (l.map Prod.fst) := by
  have h' := h
  obtain ⟨_, ⟨rfl, hn⟩ | ⟨g, cap, cur, rfl, hb, hg, hcap, _⟩⟩ := h
  · obtain rfl : l = [] := List.length_eq_zero_iff.1 hn
    exact RIn.nil _ _
  · have hlen : (l.map Prod.fst).length = l.length := by simp
    unfold RIn
    rw [← hlen]
    refine ReadsIn.mk ⟨Nat.le_trans hlo hb, (Array.getElem?_eq_some_iff.1 hg).1⟩ (fun i x hx => ?_) (by rw [hlen]; exact hcap)
    rw [List.getElem?_map] at hx
    cases hq : l[i]? with
    | none => rw [hq] at hx; cases hx
    | some q =>
      rw [hq] at hx
      cases hx
      have hi := (List.getElem?_eq_some_iff.1 hq).1
      have hc := fun j (hj : j < 3) => World.ownsRow.cellAt h' (i * 3 + j) (by omega)
      rw [Nat.zero_add]
      refine ⟨?_, ?_, q.2, ?_, hr q (List.mem_of_getElem? hq)⟩
      · have := hc 0 (by omega); rw [itemCells_at _ i 0 q hq (by omega)] at this; simpa using this
      · have := hc 1 (by omega); rw [itemCells_at _ i 1 q hq (by omega)] at this; simpa using this
      · have := hc 2 (by omega); rw [itemCells_at _ i 2 q hq (by omega)] at this; simpa using this
/-- a row of items that the call owns, whose lists lie in other blocks of its own -/
def RowI (B : Nat) (W : World) (v : Value) (l : List (Item × Value)) : Prop := OwnI B W v l ∧ ∀ q ∈ l, ReadsIn W (fun g => B ≤ g ∧ g < W.heap.size ∧ v.ownBlock ≠ some g) q.2 q.1.list
theorem RowI.nil (B : Nat) (W : World) : RowI B W (.slice none 0 0) [] := ⟨OwnI.nil _ _, fun _ h => by cases h⟩
theorem RowI.after {B : Nat} {W W' : World} {v : Value} {l : List (Item × Value)} (h : RowI B W v l) (hb : Below W.heap.size W W') : RowI B W' v l :=
  ⟨h.1.after hb, fun q hq => (h.2 q hq).kept (fun g _ o hg hc => (hb.cell (p := ⟨g, o, none⟩) hg.2.1).trans hc) (fun _ hg => ⟨hg.1, Nat.lt_of_lt_of_le hg.2.1 hb.size, hg.2.2⟩)⟩
theorem RowI.snoc {B : Nat} {W W' : World} {v v' : Value} {l : List (Item × Value)} {q : Item × Value} (h : RowI B W v l) (hrx : ReadsIn W (fun g => B ≤ g ∧ g < W.heap.size ∧ v.ownBlock ≠ some g) q.2 q.1.list)
    (hown : OwnI B W' v' (l ++ [q])) (hg : W.grownBy W' v.ownBlock) (hv : v'.ownBlock = v.ownBlock ∨ v'.ownBlock = some W.heap.size) : RowI B W' v' (l ++ [q]) := by
  have hA : ∀ {u : Value} {ys : List Item}, ReadsIn W (fun g => B ≤ g ∧ g < W.heap.size ∧ v.ownBlock ≠ some g) u ys → ReadsIn W' (fun g => B ≤ g ∧ g < W'.heap.size ∧ v'.ownBlock ≠ some g) u ys := fun hr =>
    hr.kept (fun g u o hg' hc => (World.cell?_of_block (a := ⟨g, o, none⟩) (hg.block g hg'.2.1 (fun e => hg'.2.2 e.symm))).trans hc) (fun g hg' => ⟨hg'.1, Nat.lt_of_lt_of_le hg'.2.1 hg.size, fun e => by
      rcases hv with hv | hv
      · exact hg'.2.2 (hv ▸ e)
      · rw [hv] at e; cases e; omega⟩)
  refine ⟨hown, fun q' hq => ?_⟩
  rcases List.mem_append.1 hq with hq | hq
  · exact hA (h.2 q' hq)
  · simp at hq; rw [hq]; exact hA hrx
theorem RowI.rin {B : Nat} {W : World} {v : Value} {l : List (Item × Value)} (h : RowI B W v l) : RIn W B v (l.map Prod.fst) :=
  h.1.rin (Nat.le_refl _) (fun q hq => (h.2 q hq).mono (fun _ hg => ⟨hg.1, hg.2.1⟩))
theorem RowI.form {B : Nat} {W : World} {v : Value} {l : List (Item × Value)} (h : RowI B W v l) : ∃ p c, v = .slice p l.length c := h.1.form'
/-- an item that was made behind a world, to be appended to a row that was there -/
theorem RowI.fresh {B : Nat} {W W' : World} {v : Value} {l : List (Item × Value)} (h : RowI B W v l) (hB : B ≤ W.heap.size) {u : Value} {xs : List Item} (hu : RIn W' W.heap.size u xs) : ReadsIn W' (fun g => B ≤ g ∧ g < W'.heap.size ∧ v.ownBlock ≠ some g) u xs := by
  exact ReadsIn.mono hu (fun g hg => ⟨Nat.le_trans hB hg.1, hg.2, fun e => by have := (h.1.lt' g e).2; omega⟩)
end Go.Proofs.YtmjblnhnadffmaaDoor
/- Contracts of acct.isLog and of the reference's rightLog. -/
namespace Go.Proofs.YtmjblnhnadffmaaDoor
open Go.RowKit Go.Shelf Go.Lib
attribute [local go_sem] Oper.semAt_some

theorem all_split (l : List ByteArray) : (l.all rightTop = true ∧ ∀ y ∈ l, y.size = 32) ∨ (l.all rightTop = false ∧ ∃ y ∈ l, y.size ≠ 32) := by
  cases h : l.all rightTop with
  | true =>
    refine .inl ⟨rfl, fun y hy => ?_⟩
    simpa [rightTop] using List.all_eq_true.1 h y hy
  | false =>
    obtain ⟨y, h1, h2⟩ := List.all_eq_false.1 h
    exact .inr ⟨rfl, y, h1, by simpa [rightTop] using h2⟩
set_option maxRecDepth 100000 in
set_option maxHeartbeats 3200000 in
theorem isLog_any (l : LogD) (p : Option Addr) (c : Nat) (w : World) (hv : Strs w (.slice p l.tops.length c) l.tops) (hN : l.tops.length ≤ 1099511627775) :
    Calls Tryd.prog 37 #[.agg #[.string l.addr, .slice p l.tops.length c, .string l.data]] w fun e w' => e = .returned (.bool (rightLog l)) ∧ Below w.heap.size w w' := by
  obtain ⟨addr, tops, data⟩ := l
  dsimp only at hv hN ⊢
  obtain ⟨n, hn⟩ : ∃ n, tops.length = n := ⟨_, rfl⟩
  have HA := Lib.hid (all_split tops)
  obtain ⟨r, hr⟩ : ∃ r, rightLog ⟨addr, tops, data⟩ = r := ⟨_, rfl⟩
  rw [hr]
  unfold rightLog at hr
  dsimp only at hr
  rw [hn] at hv hN hr ⊢
  have HV := Lib.hid hv
  have HN := Lib.hid hn
  have HR := Lib.hid hr
  have HB0 := Lib.hid (laid1 w (.cells #[.string addr, .slice p n c, .string data] 64))
  clear hv hn hr
  go_enter Tryd.func37, Tryd.ntmps37
  go_wp2_with fail
  obtain ⟨w0, hw0⟩ : ∃ W, w.alloc (.cells #[.string addr, .slice p n c, .string data] 64) = W := ⟨_, rfl⟩
  have HZ := Lib.hid (cells_three (w := w) (v0 := .string addr) (v1 := .slice p n c) (v2 := .string data) (t := 64) (Below.refl _ _))
  rw [hw0] at HB0 HZ ⊢
  clear hw0
  go_loopw [2, 4, 8] (fun r2 _ i wr => r2 = .bool false ∧ ∃ k : Nat, k ≤ n ∧ i = .int .i64 k ∧ Aside (∀ j y, j < k → tops[j]? = some y → y.size = 32) ∧ wr = w0) (fun _ _ i _ => n - (RowKit.intOf i).toNat)
  case atStart => exact ⟨rfl, 0, Nat.zero_le _, rfl, fun j y h => by omega, rfl⟩
  case round =>
    obtain ⟨rfl, k, hk, rfl, HF, rfl⟩ := hrel
    obtain ⟨z0, z1, z2⟩ := HZ.out
    have g1 : (0 : Int) ≤ k := by omega
    by_cases hlt : k < n
    · obtain ⟨y, hy⟩ : ∃ y, tops[k]? = some y := ⟨_, List.getElem?_eq_getElem (by rw [HN.out]; exact hlt)⟩
      obtain ⟨-, bk, o, rfl, hbk, hat⟩ := Strs.at HV.out (by omega)
      have c0 : wr.cell? ⟨bk, o + k, none⟩ = some (.string y) := (HB0.out.cell (p := ⟨bk, o + k, none⟩) hbk).trans (hat k y hy)
      have g2 : (k : Int) < n := by omega
      have HY := Lib.hid hy
      have hf := HF.out
      clear hat hy
      by_cases hs : y.size = 32
      · have l2 : ((y.size : Int) != 32) = false := by rw [hs]; rfl
        have hf2 : ∀ j z, j < k + 1 → tops[j]? = some z → z.size = 32 := fun j z hj hz => by
          by_cases h : j = k
          · subst h; rw [HY.out] at hz; cases hz; exact hs
          · exact hf j z (by omega) hz
        have HF2 := Lib.hid hf2
        clear hs hf HF hf2
        go_wp2_with fail
        go_roundw
        case rel => exact ⟨rfl, k + 1, by omega, by go_num, HF2.out, True.intro⟩
        case measure => simp [RowKit.intOf]; omega
      · have l2 : ((y.size : Int) != 32) = true := by simp; omega
        have HS := Lib.hid hs
        clear hs hf HF
        go_wp2_with fail
        go_ret
        refine ⟨?_, HB0.out⟩
        rcases HA.out with ⟨_, h3⟩ | ⟨h1, _⟩
        · exact absurd (h3 y (List.mem_of_getElem? HY.out)) HS.out
        · rw [← HR.out, h1]; simp
    · have hkn : k = n := by omega
      have g2 : ¬ ((k : Int) < n) := by omega
      have hall : tops.all rightTop = true := by
        rcases HA.out with ⟨h1, _⟩ | ⟨_, y, h2, h3⟩
        · exact h1
        · obtain ⟨j, hj⟩ := List.getElem?_of_mem h2
          exact absurd (HF.out j y (by have := (List.getElem?_eq_some_iff.1 hj).1; rw [HN.out] at this; omega) hj) h3
      have HALL := Lib.hid hall
      clear HF hall hkn
      by_cases ha : addr.size = 20
      · have l2 : ((addr.size : Int) == 20) = true := by rw [ha]; rfl
        have HAD := Lib.hid ha
        clear ha
        go_wp2_with fail
        go_ret
        refine ⟨?_, HB0.out⟩
        rw [← HR.out, HALL.out, HAD.out]
        simp
        omega
      · have l2 : ((addr.size : Int) == 20) = false := by simp; omega
        have HAD := Lib.hid ha
        clear ha
        go_wp2_with fail
        go_ret
        refine ⟨?_, HB0.out⟩
        rw [← HR.out, decide_eq_false HAD.out]
        rfl
set_option maxRecDepth 100000 in
set_option maxHeartbeats 3200000 in
theorem rightLog_any (l : LogD) (p : Option Addr) (c : Nat) (w : World) (hv : Strs w (.slice p l.tops.length c) l.tops) (hN : l.tops.length ≤ 1099511627775) :
    Calls Tryd.prog 63 #[.agg #[.string l.addr, .slice p l.tops.length c, .string l.data]] w fun e w' => e = .returned (.bool (rightLog l)) ∧ Below w.heap.size w w' := by
  obtain ⟨addr, tops, data⟩ := l
  dsimp only at hv hN ⊢
  obtain ⟨n, hn⟩ : ∃ n, tops.length = n := ⟨_, rfl⟩
  have HA := Lib.hid (all_split tops)
  obtain ⟨r, hr⟩ : ∃ r, rightLog ⟨addr, tops, data⟩ = r := ⟨_, rfl⟩
  rw [hr]
  unfold rightLog at hr
  dsimp only at hr
  rw [hn] at hv hN hr ⊢
  have HV := Lib.hid hv
  have HN := Lib.hid hn
  have HR := Lib.hid hr
  have HB0 := Lib.hid (laid1 w (.cells #[.string addr, .slice p n c, .string data] 64))
  clear hv hn hr
  by_cases ha : addr.size = 20
  · have l2 : ((addr.size : Int) != 20) = false := by rw [ha]; rfl
    by_cases h4 : n ≤ 4
    · have g4 : ¬ ((4 : Int) < n) := by omega
      have HAD := Lib.hid (And.intro ha h4)
      clear ha h4
      go_enter Tryd.func63, Tryd.ntmps63
      go_wp2_with fail
      obtain ⟨w0, hw0⟩ : ∃ W, w.alloc (.cells #[.string addr, .slice p n c, .string data] 64) = W := ⟨_, rfl⟩
      have HZ := Lib.hid (cells_three (w := w) (v0 := .string addr) (v1 := .slice p n c) (v2 := .string data) (t := 64) (Below.refl _ _))
      rw [hw0] at HB0 HZ ⊢
      clear hw0 g4
      go_loopw [2, 3] (fun r2 i wr => r2 = .bool false ∧ ∃ k : Nat, k ≤ n ∧ i = .int .i64 k ∧ Aside (∀ j y, j < k → tops[j]? = some y → y.size = 32) ∧ wr = w0) (fun _ i _ => n - (RowKit.intOf i).toNat)
      case atStart => exact ⟨rfl, 0, Nat.zero_le _, rfl, fun j y h => by omega, rfl⟩
      case round =>
        obtain ⟨rfl, k, hk, rfl, HF, rfl⟩ := hrel
        obtain ⟨z0, z1, z2⟩ := HZ.out
        have g1 : (0 : Int) ≤ k := by omega
        by_cases hlt : k < n
        · obtain ⟨y, hy⟩ : ∃ y, tops[k]? = some y := ⟨_, List.getElem?_eq_getElem (by rw [HN.out]; exact hlt)⟩
          obtain ⟨-, bk, o, rfl, hbk, hat⟩ := Strs.at HV.out (by omega)
          have c0 : wr.cell? ⟨bk, o + k, none⟩ = some (.string y) := (HB0.out.cell (p := ⟨bk, o + k, none⟩) hbk).trans (hat k y hy)
          have g2 : (k : Int) < n := by omega
          have HY := Lib.hid hy
          have hf := HF.out
          clear hat hy
          by_cases hs : y.size = 32
          · have l3 : ((y.size : Int) != 32) = false := by rw [hs]; rfl
            have hf2 : ∀ j z, j < k + 1 → tops[j]? = some z → z.size = 32 := fun j z hj hz => by
              by_cases h : j = k
              · subst h; rw [HY.out] at hz; cases hz; exact hs
              · exact hf j z (by omega) hz
            have HF2 := Lib.hid hf2
            clear hs hf HF hf2
            go_wp2_with fail
            go_roundw
            case rel => exact ⟨rfl, k + 1, by omega, by go_num, HF2.out, True.intro⟩
            case measure => simp [RowKit.intOf]; omega
          · have l3 : ((y.size : Int) != 32) = true := by simp; omega
            have HS := Lib.hid hs
            clear hs hf HF
            go_wp2_with fail
            go_ret
            refine ⟨?_, HB0.out⟩
            rcases HA.out with ⟨_, h3⟩ | ⟨h1, _⟩
            · exact absurd (h3 y (List.mem_of_getElem? HY.out)) HS.out
            · rw [← HR.out, h1]; simp
        · have hkn : k = n := by omega
          have g2 : ¬ ((k : Int) < n) := by omega
          have hall : tops.all rightTop = true := by
            rcases HA.out with ⟨h1, _⟩ | ⟨_, y, h2, h3⟩
            · exact h1
            · obtain ⟨j, hj⟩ := List.getElem?_of_mem h2
              exact absurd (HF.out j y (by have := (List.getElem?_eq_some_iff.1 hj).1; rw [HN.out] at this; omega) hj) h3
          have HALL := Lib.hid hall
          clear HF hall hkn
          go_wp2_with fail
          go_ret
          refine ⟨?_, HB0.out⟩
          rw [← HR.out, HALL.out, HAD.out.1, decide_eq_true HAD.out.2]
          rfl
    · have g4 : (4 : Int) < n := by omega
      have H4 := Lib.hid h4
      clear ha h4
      go_enter Tryd.func63, Tryd.ntmps63
      go_wp2_with fail
      go_ret
      exact ⟨by rw [← HR.out, decide_eq_false H4.out]; simp, HB0.out⟩
  · have l2 : ((addr.size : Int) != 20) = true := by simp; omega
    have HAD := Lib.hid ha
    clear ha
    go_enter Tryd.func63, Tryd.ntmps63
    go_wp2_with fail
    go_ret
    exact ⟨by rw [← HR.out, decide_eq_false HAD.out]; rfl, HB0.out⟩
end Go.Proofs.YtmjblnhnadffmaaDoor

/- Contract of acct.ReceiptBytes. -/
namespace Go.Proofs.YtmjblnhnadffmaaDoor
open Go.RowKit Go.Shelf Go.Lib
attribute [local go_sem] Oper.semAt_some

/-- how much a receipt's item weighs -/
theorem weight_tops (l : List ByteArray) : weightAll (l.map textItem) ≤ weightL.weightT l := by
  induction l with
  | nil => exact Nat.le_refl _
  | cons t r ih =>
    simp only [List.map_cons, weightAll, weightL.weightT, textItem, Item.weight]
    have e : t.data.toList.length = t.size := rfl
    omega
theorem weight_logs (ls : List LogD) : weightAll (ls.map logItem) ≤ 5 * weightL ls := by
  induction ls with
  | nil => exact Nat.le_refl _
  | cons l r ih =>
    have h := weight_tops l.tops
    simp only [List.map_cons, weightAll, weightL, logItem, topsItem, textItem, Item.weight]
    have e1 : l.addr.data.toList.length = l.addr.size := rfl
    have e2 : l.data.data.toList.length = l.data.size := rfl
    simp only [List.length_nil]
    omega
theorem weight_rcpt (good : Bool) {gas : Nat} (ls : List LogD) (hw : weightL ls ≤ 1048576) : (rcptItem good gas ls).weight ≤ 5242900 := by
  have h := weight_logs ls
  have h1 := num_length gas
  have h2 : (goodL good).length ≤ 1 := by cases good <;> simp [goodL]
  simp only [rcptItem, Item.weight, weightAll, List.length_nil]
  omega
theorem rcpt_small (good : Bool) {gas : Nat} (ls : List LogD) (hw : weightL ls ≤ 1048576) : (rcptItem good gas ls).size ≤ 1099511627776 ∧ (put (rcptItem good gas ls)).length ≤ 1099511627776 := by
  have h := weight_rcpt good (gas := gas) ls hw
  have h1 := size_weight (rcptItem good gas ls)
  have h2 := put_weight (rcptItem good gas ls)
  omega
theorem len_weightL (ls : List LogD) : ls.length ≤ weightL ls := by
  induction ls with
  | nil => exact Nat.le_refl _
  | cons l r ih => simp only [List.length_cons, weightL]; omega
theorem len_weightT (l : List ByteArray) : l.length ≤ weightL.weightT l := by
  induction l with
  | nil => exact Nat.le_refl _
  | cons t r ih => simp only [List.length_cons, weightL.weightT]; omega
theorem mem_weightL {ls : List LogD} {x : LogD} (h : x ∈ ls) : x.tops.length ≤ weightL ls := by
  induction ls with
  | nil => cases h
  | cons l r ih =>
    simp only [weightL]
    rcases List.mem_cons.1 h with rfl | h
    · have := len_weightT x.tops; omega
    · have := ih h; omega
theorem logs_split (ls : List LogD) : (ls.all rightLog = true ∧ ∀ y ∈ ls, rightLog y = true) ∨ (ls.all rightLog = false ∧ ∃ y ∈ ls, rightLog y = false) := by
  cases h : ls.all rightLog with
  | true => exact .inl ⟨rfl, List.all_eq_true.1 h⟩
  | false =>
    obtain ⟨y, h1, h2⟩ := List.all_eq_false.1 h
    exact .inr ⟨rfl, y, h1, by simpa using h2⟩
theorem isLog_lit (l : LogD) (b : Bool) (hb : rightLog l = b) (p : Option Addr) (m c : Nat) (hm : l.tops.length = m) (w : World) (hv : Strs w (.slice p m c) l.tops) (hN : m ≤ 1099511627775) :
    Calls Tryd.prog 37 #[.agg #[.string l.addr, .slice p m c, .string l.data]] w fun e w' => e = .returned (.bool b) ∧ Below w.heap.size w w' := by
  subst hb; subst hm
  exact isLog_any l p c w hv hN
set_option maxRecDepth 100000 in
set_option maxHeartbeats 12800000 in
theorem rcptBytes_any (good : Bool) (gas : Nat) (ls : List LogD) (p : Option Addr) (c : Nat) (w : World) (hv : Logs w (.slice p ls.length c) ls) (hg : gas < 18446744073709551616) (hw : weightL ls ≤ 1048576) :
    Calls Tryd.prog 14 #[.agg #[.bool good, .int .u64 gas, .slice p ls.length c]] w fun e w' => e = .returned (.tuple #[.string ⟨(rcptBytes good gas ls).1.toArray⟩, .int .i64 (rcptBytes good gas ls).2]) ∧ Below w.heap.size w w' := by
  have hsm := rcpt_small good (gas := gas) ls hw
  have HSM := Lib.hid hsm
  have hlw := len_weightL ls
  have HTW := Lib.hid (fun x h => mem_weightL (ls := ls) (x := x) h)
  have HLS := Lib.hid (logs_split ls)
  obtain ⟨P, E, hPE⟩ : ∃ P E, rcptBytes good gas ls = (P, E) := ⟨_, _, rfl⟩
  rw [hPE]
  have HPE := Lib.hid hPE
  obtain ⟨n, hn⟩ : ∃ n, ls.length = n := ⟨_, rfl⟩
  rw [hn] at hv hlw ⊢
  have HV := Lib.hid hv
  have HN := Lib.hid hn
  have HW := Lib.hid hw
  have HB0 := Lib.hid (laid1 w (.cells #[.bool good, .int .u64 gas, .slice p n c] 38))
  have hnl : n ≤ 1048576 := by omega
  have HNL := Lib.hid (fun W => number_lit gas rfl hg W)
  clear hsm hPE hv hn hw hlw hg
  go_enter Tryd.func14, Tryd.ntmps14
  go_wp2_with fail
  obtain ⟨w0, hw0⟩ : ∃ W, w.alloc (.cells #[.bool good, .int .u64 gas, .slice p n c] 38) = W := ⟨_, rfl⟩
  have HZ := Lib.hid (fun W (hb : Below w0.heap.size w0 W) => cells_three (w := w) (W := W) (v0 := .bool good) (v1 := .int .u64 gas) (v2 := .slice p n c) (t := 38) (by rw [hw0]; exact hb))
  have hz0 : w.heap.size + 1 ≤ w0.heap.size := by rw [← hw0]; simp
  rw [hw0] at HB0 ⊢
  clear hw0
  go_loopw [2, 3, 4, 14] (fun r2 r3 v i wr => r2 = .string ⟨#[]⟩ ∧ r3 = .int .i64 0 ∧ ∃ (k : Nat) (L : List (Item × Value)), k ≤ n ∧ i = .int .i64 k ∧ Aside (∀ j y, j < k → ls[j]? = some y → rightLog y = true) ∧ Aside (L.map Prod.fst = (ls.take k).map logItem) ∧ Aside (RowI w0.heap.size wr v L) ∧ Aside (Below w0.heap.size w0 wr)) (fun _ _ _ i _ => n - (RowKit.intOf i).toNat)
  case atStart => exact ⟨rfl, rfl, 0, [], Nat.zero_le _, rfl, fun j y h => by omega, rfl, RowI.nil _ _, Below.refl _ _⟩
  case round =>
    obtain ⟨rfl, rfl, k, L, hk, rfl, HF, HL, HO, HB⟩ := hrel
    have hll : L.length = k := by
      have := congrArg List.length HL.out
      rw [List.length_map, List.length_map, List.length_take, HN.out] at this
      omega
    obtain ⟨pv, cv, rfl⟩ := HO.out.form
    rw [hll] at HO ⊢
    have HLL := Lib.hid hll
    have g1 : (0 : Int) ≤ k := by omega
    by_cases hlt : k < n
    · obtain ⟨x, hx⟩ : ∃ x, ls[k]? = some x := ⟨_, List.getElem?_eq_getElem (by rw [HN.out]; exact hlt)⟩
      obtain ⟨-, bk, o, rfl, hbk, hat⟩ := Logs.at HV.out (by omega)
      have hbw : Below w.heap.size w wr := HB0.out.trans (HB.out.mono (by omega))
      obtain ⟨u, a0, a1, a2, hst⟩ := hat k x hx
      have c0 : wr.cell? ⟨bk, o + k * 3, none⟩ = some (.string x.addr) := (hbw.cell (p := ⟨bk, o + k * 3, none⟩) hbk).trans a0
      have c1 : wr.cell? ⟨bk, o + k * 3 + 1, none⟩ = some u := (hbw.cell (p := ⟨bk, o + k * 3 + 1, none⟩) hbk).trans a1
      have c2 : wr.cell? ⟨bk, o + k * 3 + 2, none⟩ = some (.string x.data) := (hbw.cell (p := ⟨bk, o + k * 3 + 2, none⟩) hbk).trans a2
      have hst2 := hst.below hbw
      obtain ⟨q, cq, rfl⟩ := hst2.form
      obtain ⟨m, hm⟩ : ∃ m, x.tops.length = m := ⟨_, rfl⟩
      have hmN : m ≤ 1048576 := by rw [← hm]; exact Nat.le_trans (HTW.out x (List.mem_of_getElem? hx)) HW.out
      rw [hm] at c1 hst2
      have g2 : (k : Int) < n := by omega
      obtain ⟨wa, hwa⟩ : ∃ W, wr.alloc (.cells #[.string x.addr, .slice q m cq, .string x.data] 64) = W := ⟨_, rfl⟩
      have hba : Below wr.heap.size wr wa := by rw [← hwa]; exact laid1 wr _
      have hza : wr.heap.size + 1 = wa.heap.size := by rw [← hwa]; simp
      obtain ⟨rl, hrl⟩ : ∃ b, rightLog x = b := ⟨_, rfl⟩
      have HIS := Lib.hid (isLog_lit x rl hrl q m cq hm wa (hst2.below hba) (by omega))
      have HA3 := Lib.hid (fun W (hb : Below wa.heap.size wa W) => cells_three (w := wr) (W := W) (v0 := .string x.addr) (v1 := .slice q m cq) (v2 := .string x.data) (t := 64) (by rw [hwa]; exact hb))
      have HSA := Lib.hid (hst2.below hba)
      have HOA := Lib.hid (HO.out.after hba)
      have HBA := Lib.hid (HB.out.trans (hba.mono HB.out.size))
      have HZA := Lib.hid hza
      have HWA := Lib.hid hwa
      have HX := Lib.hid hx
      have HM := Lib.hid hm
      have HRL := Lib.hid hrl
      have hf := HF.out
      have HLO := Lib.hid HL.out
      have HOB := Lib.hid (fun g e => (HO.out.1.lt' g e).2)
      clear hbw a0 a1 a2 hst hst2 hba hza hwa hm hrl hat hbk HO HF HL
      go_wp2_with fail
      rw [HWA.out]
      refine HIS.out.mono ?_
      rintro e w2 ⟨rfl, hb2⟩
      have HB2 := Lib.hid (HBA.out.trans (hb2.mono HBA.out.size))
      cases rl with
      | false =>
        clear HOA HA3 HSA hf
        go_wp2_with fail
        go_ret2
        have hr : rcptRight ls = false := by
          unfold rcptRight
          rcases HLS.out with ⟨_, h⟩ | ⟨h, _⟩
          · have := h x (List.mem_of_getElem? HX.out)
            rw [HRL.out] at this; cases this
          · rw [h]; rfl
        have h := HPE.out
        unfold rcptBytes at h
        rw [hr] at h
        cases h
        exact ⟨rfl, HB0.out.trans (HB2.out.mono (by omega))⟩
      | true =>
        have hf2 : ∀ j z, j < k + 1 → ls[j]? = some z → rightLog z = true := fun j z hj hz => by
          by_cases h : j = k
          · subst h; rw [HX.out] at hz; cases hz; exact HRL.out
          · exact hf j z (by omega) hz
        have HF2 := Lib.hid hf2
        have HO2 := Lib.hid (HOA.out.after hb2)
        have HS2 := Lib.hid (HSA.out.below hb2)
        obtain ⟨d0, d1, d2⟩ := HA3.out w2 hb2
        have HA2 := Lib.hid (fun W (hb : Below w2.heap.size w2 W) => HA3.out W (hb2.trans (hb.mono hb2.size)))
        have hzw2 : wr.heap.size + 1 ≤ w2.heap.size := by have := hb2.size; have := HZA.out; omega
        have HZW2 := Lib.hid hzw2
        clear hf hf2 HOA HSA HBA HIS HA3 hb2 c0 c1 c2 HZA hzw2
        go_wp2_with fail
        obtain ⟨ba, hba⟩ : ∃ b, wr.heap.size = b := ⟨_, rfl⟩
        rw [hba] at d0 d1 d2 HA2 HZW2 HOB ⊢
        have HBAE := Lib.hid hba
        clear hba d0 d1 d2
        go_loopw [7, 24] (fun v i wq => ∃ j : Nat, j ≤ m ∧ i = .int .i64 j ∧ Aside (OwnI w2.heap.size wq v (textRow (x.tops.take j))) ∧ Aside (Below w2.heap.size w2 wq)) (fun _ i _ => m - (RowKit.intOf i).toNat)
        case atStart => exact ⟨0, Nat.zero_le _, rfl, OwnI.nil _ _, Below.refl _ _⟩
        case round =>
          obtain ⟨j, hj, rfl, HT, HBT⟩ := hrel
          have g3 : (0 : Int) ≤ j := by omega
          by_cases hjm : j < m
          · obtain ⟨y, hy⟩ : ∃ y, x.tops[j]? = some y := ⟨_, List.getElem?_eq_getElem (by rw [HM.out]; exact hjm)⟩
            obtain ⟨-, bq, oq, rfl, hbq, hatq⟩ := Strs.at HS2.out (by omega)
            have c0 : wr.cell? ⟨bq, oq + j, none⟩ = some (.string y) := (HBT.out.cell (p := ⟨bq, oq + j, none⟩) hbq).trans (hatq j y hy)
            have hts : textRow (x.tops.take (j + 1)) = textRow (x.tops.take j) ++ [(itT y, .slice none 0 0)] := by unfold textRow; rw [List.take_add_one, hy]; simp
            have hll : (textRow (x.tops.take j)).length = j := by unfold textRow; rw [List.length_map, List.length_take, HM.out]; omega
            obtain ⟨T, hT⟩ : ∃ T, textRow (x.tops.take j) = T := ⟨_, rfl⟩
            have ho := HT.out
            rw [hT] at hts hll ho
            obtain ⟨pt, ct, hv⟩ := ho.form'
            rw [hll] at hv
            subst hv
            have HTS := Lib.hid hts
            have HTL := Lib.hid hll
            have HO1 := Lib.hid ho
            have g4 : (j : Int) < m := by omega
            clear hts hll ho hT hy HT hatq hbq
            go_wp2_with fail
            refine (text_any y wr).mono ?_
            rintro e w3 ⟨rfl, hb3⟩
            have HO3 := Lib.hid (HO1.out.after hb3)
            have HB3 := Lib.hid (HBT.out.trans (hb3.mono HBT.out.size))
            clear hb3 HO1 HBT c0
            go_wp2_with (at_builtin; refine wpList_appendJ rfl _ _ rfl w2.heap.size _ T rfl (HO3.out.after (laid1 _ _)) ⟨w3.heap.size, 0, none⟩ 1 (itT y, .slice none 0 0) ⟨_, _, _, rfl⟩ rfl ?c0 ?c1 ?c2 ?_)
            case c0 => exact fun j u hu => by rw [addr_add']; exact cells_at w3 (itemCells [(itT y, .slice none 0 0)]) _ j u hu
            case c1 => rw [HTL.out]; omega
            case c2 => have := HB3.out.size; simp; omega
            intro v5 w5 ho5 hg5
            have hb5 : Below w2.heap.size w2 w5 := (HB3.out.alloc HB3.out.size _).grown hg5 (by have := HB3.out.size; simp; omega) (fun r e => (HO3.out.lt' r e).1)
            rw [← HTS.out] at ho5
            have HO5 := Lib.hid ho5
            have HB5 := Lib.hid hb5
            clear ho5 hg5 hb5 HO3 HB3
            go_wp2
            go_roundw
            case rel => exact ⟨j + 1, by omega, by go_num, HO5.out, HB5.out⟩
            case measure => simp [RowKit.intOf]; omega
          · have hjm2 : j = m := by omega
            have g4 : ¬ ((j : Int) < m) := by omega
            have ho := HT.out
            rw [List.take_of_length_le (by rw [HM.out]; omega)] at ho
            have hr := ho.texts
            obtain ⟨pt, ct, hv⟩ := hr.form
            rw [List.length_map, HM.out] at hv
            subst hv
            have HR := Lib.hid hr
            have HS := Lib.hid (fun W (hb : Below wr.heap.size wr W) => HA2.out W (HBT.out.trans (hb.mono HBT.out.size)))
            clear ho HT hr hjm2
            go_wp2_with fail
            have b0 : Below wr.heap.size wr wr.drew := (Below.refl _ _).drew
            refine wp_region_held_drew (S := (fun W => W.cell? ⟨ba, 0, none⟩ = some (.string x.addr) ∧ W.cell? ⟨ba, 1, none⟩ = some (.slice q m cq) ∧ W.cell? ⟨ba, 2, none⟩ = some (.string x.data))) (by kernel_rfl) (HS.out _ b0) (fun hHeld => ?_)
            refine wpAnyH_take (i := 0) (v := ?_) rfl (by kernel_rfl) (by kernel_rfl) (by kernel_rfl) (fun _ _ _ h => h) (.inl ⟨by rfl, ?_⟩) (by assumption) ?_
            rotate_left 1
            · intro w0 hSw
              go_simp <;> with_reducible rfl
            try simp only [Act.put, List.getElem_toArray, List.getElem_cons_zero, List.setIfInBounds_toArray, List.set_cons_zero, List.set_cons_succ]
            refine wpAnyH_take (i := 1) (v := ?_) rfl (by kernel_rfl) (by kernel_rfl) (by kernel_rfl) (fun _ _ _ h => h) (.inl ⟨by rfl, ?_⟩) (by assumption) ?_
            rotate_left 1
            · intro w0 hSw
              go_simp <;> with_reducible rfl
            try simp only [Act.put, List.getElem_toArray, List.getElem_cons_zero, List.getElem_cons_succ, List.setIfInBounds_toArray, List.set_cons_zero, List.set_cons_succ]
            refine wpAnyH_take (i := 2) (v := ?_) rfl (by kernel_rfl) (by kernel_rfl) (by kernel_rfl) (fun _ _ _ h => h) (.inl ⟨by rfl, ?_⟩) (by assumption) ?_
            rotate_left 1
            · intro w0 hSw
              obtain ⟨z0, z1, z2⟩ := hSw
              go_simp <;> with_reducible rfl
            try simp only [Act.put, List.getElem_toArray, List.getElem_cons_zero, List.getElem_cons_succ, List.setIfInBounds_toArray, List.set_cons_zero, List.set_cons_succ]
            refine wpAnyH_take (i := 4) (v := ?_) rfl (by kernel_rfl) (by kernel_rfl) (by kernel_rfl) (fun _ _ _ h => h) (.inl ⟨by rfl, ?_⟩) (by assumption) ?_
            rotate_left 1
            · intro w0 hSw
              go_simp <;> with_reducible rfl
            try simp only [Act.put, List.getElem_toArray, List.getElem_cons_zero, List.getElem_cons_succ, List.setIfInBounds_toArray, List.set_cons_zero, List.set_cons_succ]
            refine wpAnyH_take (i := 6) (v := ?_) rfl (by kernel_rfl) (by kernel_rfl) (by kernel_rfl) (fun _ _ _ h => h) (.inl ⟨by rfl, ?_⟩) (by assumption) ?_
            rotate_left 1
            · intro w0 hSw
              go_simp <;> with_reducible rfl
            try simp only [Act.put, List.getElem_toArray, List.getElem_cons_zero, List.getElem_cons_succ, List.setIfInBounds_toArray, List.set_cons_zero, List.set_cons_succ]
            refine wpAnyH_take (i := 7) (v := ?_) rfl (by kernel_rfl) (by kernel_rfl) (by kernel_rfl) (fun _ _ _ h => h) (.inl ⟨by rfl, ?_⟩) (by assumption) ?_
            rotate_left 1
            · intro w0 hSw
              obtain ⟨z0, z1, z2⟩ := hSw
              go_simp <;> with_reducible rfl
            try simp only [Act.put, List.getElem_toArray, List.getElem_cons_zero, List.getElem_cons_succ, List.setIfInBounds_toArray, List.set_cons_zero, List.set_cons_succ]
            refine wpAnyH_ready (rs := [3]) (by kernel_rfl) (by simp) ?_
            refine AllReadyH.cons rfl (fun K hK => ?_) AllReadyH.nil
            go_simp
            go_at_call 30
            refine (text_any _ _).mono ?_
            rintro e w4 ⟨rfl, hb4⟩
            have b4 : Below wr.heap.size wr w4 := b0.trans (hb4.mono b0.size)
            clear hb4
            refine hK.out _ _ (HS.out _ b4) (fun hHeld => ?_)
            clear hK K
            try simp only [Act.put, List.getElem_toArray, List.getElem_cons_zero, List.getElem_cons_succ, List.setIfInBounds_toArray, List.set_cons_zero, List.set_cons_succ]
            refine wpAnyH_ready (rs := [5]) (by kernel_rfl) (by simp) ?_
            refine AllReadyH.cons rfl (fun K hK => ?_) AllReadyH.nil
            go_simp
            go_at_call 35
            refine (list_any _ _ _ _).mono ?_
            rintro e w5 ⟨rfl, hb5⟩
            have b5 : Below wr.heap.size wr w5 := b4.trans (hb5.mono b4.size)
            clear hb5
            refine hK.out _ _ (HS.out _ b5) (fun hHeld => ?_)
            clear hK K
            try simp only [Act.put, List.getElem_toArray, List.getElem_cons_zero, List.getElem_cons_succ, List.setIfInBounds_toArray, List.set_cons_zero, List.set_cons_succ]
            refine wpAnyH_ready (rs := [8]) (by kernel_rfl) (by simp) ?_
            refine AllReadyH.cons rfl (fun K hK => ?_) AllReadyH.nil
            go_simp
            go_at_call 30
            refine (text_any _ _).mono ?_
            rintro e w6 ⟨rfl, hb6⟩
            have b6 : Below wr.heap.size wr w6 := b5.trans (hb6.mono b5.size)
            clear hb6
            refine hK.out _ _ (HS.out _ b6) (fun hHeld => ?_)
            clear hK K
            try simp only [Act.put, List.getElem_toArray, List.getElem_cons_zero, List.getElem_cons_succ, List.setIfInBounds_toArray, List.set_cons_zero, List.set_cons_succ]
            refine wpAnyH_ready (rs := [9]) (by kernel_rfl) (by simp) ?_
            refine AllReadyH.cons rfl (fun K hK => ?_) AllReadyH.nil
            go_simp
            have hal : ∃ W, w6.alloc (.cells #[.bool false, .string x.addr, .slice none 0 0, .bool true, .string ⟨#[]⟩, .slice pt m ct, .bool false, .string x.data, .slice none 0 0] 51) = W := ⟨_, rfl⟩
            obtain ⟨w7, hal⟩ := hal
            have hb7 : Below w6.heap.size w6 w7 := by rw [← hal]; exact laid1 w6 _
            have b7 : Below wr.heap.size wr w7 := b6.trans (hb7.mono b6.size)
            have HR7 := Lib.hid (show RIn w7 w2.heap.size (.slice (some ⟨w6.heap.size, 0, none⟩) 3 3) (logItem x).list from by
              rw [← hal]
              refine reads_new w6 w2.heap.size 3 [(itT x.addr, .slice none 0 0), (itL (x.tops.map itT), .slice pt m ct), (itT x.data, .slice none 0 0)] rfl (by have := HBT.out.size; have := b6.size; omega) (fun q hq => ?_)
              simp only [List.mem_cons, List.not_mem_nil, or_false] at hq
              rcases hq with rfl | rfl | rfl
              · exact RIn.nil _ _
              · exact HR.out.below b6
              · exact RIn.nil _ _)
            rw [hal]
            clear hal hb7
            refine hK.out _ _ (HS.out _ b7) (fun hHeld => ?_)
            clear hK K
            try simp only [Act.put, List.getElem_toArray, List.getElem_cons_zero, List.getElem_cons_succ, List.setIfInBounds_toArray, List.set_cons_zero, List.set_cons_succ]
            refine wpAnyH_ready (rs := [10]) (by kernel_rfl) (by simp) ?_
            refine AllReadyH.cons rfl (fun K hK => ?_) AllReadyH.nil
            go_simp
            go_at_call 35
            refine (list_any _ _ _ _).mono ?_
            rintro e w8 ⟨rfl, hb8⟩
            have b8 : Below wr.heap.size wr w8 := b7.trans (hb8.mono b7.size)
            have HR8 := Lib.hid (HR7.out.below hb8)
            clear hb8 HR7
            refine hK.out _ _ (HS.out _ b8) (fun hHeld => ?_)
            clear hK K
            try simp only [Act.put, List.getElem_toArray, List.getElem_cons_zero, List.getElem_cons_succ, List.setIfInBounds_toArray, List.set_cons_zero, List.set_cons_succ]
            refine wpAnyH_ready (rs := [11]) (by kernel_rfl) (by simp) ?_
            refine AllReadyH.cons rfl (fun K hK => ?_) AllReadyH.nil
            go_simp
            have hal : ∃ W, w8.alloc (.cells #[.bool true, .string ⟨#[]⟩, .slice (some ⟨w6.heap.size, 0, none⟩) 3 3] 51) = W := ⟨_, rfl⟩
            obtain ⟨w9, hal⟩ := hal
            have hb9 : Below w8.heap.size w8 w9 := by rw [← hal]; exact laid1 w8 _
            have b9 : Below wr.heap.size wr w9 := b8.trans (hb9.mono b8.size)
            have HR9 := Lib.hid (HR8.out.below hb9)
            have HC9 := Lib.hid (show ∀ j u, (itemCells [(logItem x, .slice (some ⟨w6.heap.size, 0, none⟩) 3 3)])[j]? = some u → w9.cell? ⟨w8.heap.size, j, none⟩ = some u from by
              rw [← hal]
              exact fun j u hu => cells_at w8 _ _ j u hu)
            rw [hal]
            clear hal hb9 HR8
            refine hK.out _ _ (HS.out _ b9) (fun hHeld => ?_)
            clear hK K
            try simp only [Act.put, List.getElem_toArray, List.getElem_cons_zero, List.getElem_cons_succ, List.setIfInBounds_toArray, List.set_cons_zero, List.set_cons_succ]
            refine wpAnyH_ready (rs := [12]) (by kernel_rfl) (by simp) ?_
            refine AllReadyH.cons rfl (fun K hK => ?_) AllReadyH.nil
            have bw9 : Below w2.heap.size w2 w9 := HBT.out.trans (b9.mono HBT.out.size)
            have HO9 := Lib.hid (HO2.out.after bw9)
            refine step_appendI rfl _ _ rfl w0.heap.size (.slice pv k cv) L rfl HO9.out.1 ⟨w8.heap.size, 0, none⟩ 1 (logItem x, .slice (some ⟨w6.heap.size, 0, none⟩) 3 3) ⟨_, _, _, rfl⟩ rfl ?f0 ?f1 ?f2 ?_
            case f0 => exact fun j u hu => by rw [addr_add']; exact HC9.out j u hu
            case f1 => rw [HLL.out]; omega
            case f2 => have := HB2.out.size; have := bw9.size; omega
            intro v10 w10 ho10 hg10 hv10
            have hon : RowI w0.heap.size w10 v10 (L ++ [(logItem x, .slice (some ⟨w6.heap.size, 0, none⟩) 3 3)]) := HO9.out.snoc (HO2.out.fresh HB2.out.size HR9.out) ho10 hg10 hv10
            have hbn : Below w0.heap.size w0 w10 := (HB2.out.trans (bw9.mono HB2.out.size)).grown hg10 (by have := HB2.out.size; have := bw9.size; omega) (fun r e => (HO9.out.1.lt' r e).1)
            have hln : (L ++ [(logItem x, Value.slice (some ⟨w6.heap.size, 0, none⟩) 3 3)]).map Prod.fst = (ls.take (k + 1)).map logItem := by rw [List.map_append, HLO.out, List.take_add_one, HX.out]; simp
            have HON := Lib.hid hon
            have HBN := Lib.hid hbn
            have HLN := Lib.hid hln
            have s9 := hHeld
            have hbb : w10.heap[ba]? = w9.heap[ba]? := hg10.block ba (by have := HZW2.out; have := bw9.size; omega) (fun e => by have := HOB.out ba e.symm; omega)
            clear hon hbn hln ho10 hg10 hv10
            refine hK.out _ _ (⟨(World.cell?_of_block (a := ⟨ba, 0, none⟩) hbb).trans s9.1, (World.cell?_of_block (a := ⟨ba, 1, none⟩) hbb).trans s9.2.1, (World.cell?_of_block (a := ⟨ba, 2, none⟩) hbb).trans s9.2.2⟩) (fun hHeld => ?_)
            clear hK K
            try simp only [Act.put, List.getElem_toArray, List.getElem_cons_zero, List.getElem_cons_succ, List.setIfInBounds_toArray, List.set_cons_zero, List.set_cons_succ]
            refine wpAnyH_take (i := 13) (v := ?_) rfl (by kernel_rfl) (by kernel_rfl) (by kernel_rfl) (fun _ _ _ h => h) (.inl ⟨by rfl, ?_⟩) (by assumption) ?_
            rotate_left 1
            · intro w0 hSw
              go_simp <;> with_reducible rfl
            try simp only [Act.put, List.getElem_toArray, List.getElem_cons_zero, List.getElem_cons_succ, List.setIfInBounds_toArray, List.set_cons_zero, List.set_cons_succ]
            refine wpAnyH_done (by kernel_rfl) ?_ 0
            go_wp2_with fail
            go_roundw
            case rel => exact ⟨rfl, rfl, k + 1, _, by omega, by go_num, HF2.out, HLN.out, HON.out, HBN.out⟩
            case measure => simp [RowKit.intOf]; omega
    · have hkn : k = n := by omega
      have g2 : ¬ ((k : Int) < n) := by omega
      have hall : ls.all rightLog = true := by
        rcases HLS.out with ⟨h1, _⟩ | ⟨_, y, h2, h3⟩
        · exact h1
        · obtain ⟨j, hj⟩ := List.getElem?_of_mem h2
          have := HF.out j y (by have := (List.getElem?_eq_some_iff.1 hj).1; rw [HN.out] at this; omega) hj
          rw [h3] at this; cases this
      have hr := HO.out.rin
      rw [HL.out, List.take_of_length_le (by rw [HN.out]; omega)] at hr
      have HRL := Lib.hid hr
      have HALL := Lib.hid hall
      have HBW := Lib.hid (HB0.out.trans (HB.out.mono (by omega)))
      have HZW := Lib.hid (fun W (hb : Below wr.heap.size wr W) => HZ.out W (HB.out.trans (hb.mono HB.out.size)))
      clear HF HL HO hall hr
      by_cases h20 : n ≤ 20
      · have g5 : ¬ ((20 : Int) < k) := by omega
        have hpe : encode (rcptItem good gas ls) = (P, E) := by
          have h := HPE.out
          unfold rcptBytes rcptRight at h
          rw [HALL.out, HN.out, decide_eq_true h20] at h
          exact h
        have HE := Lib.hid hpe
        clear hpe h20
        subst hkn
        have hsz := HZW.out wr (Below.refl _ _)
        obtain ⟨z0, z1, z2⟩ := hsz
        go_wp2_with fail
        refine (text_any ⟨#[]⟩ wr).mono ?_
        rintro e w3 ⟨rfl, hb3⟩
        have HR3 := Lib.hid (HRL.out.below hb3)
        have HB3 := Lib.hid (HBW.out.trans (hb3.mono HBW.out.size))
        have HZ3 := Lib.hid (fun W (hb : Below w3.heap.size w3 W) => HZW.out W (hb3.trans (hb.mono hb3.size)))
        have HGB := Lib.hid (show w.heap.size < w3.heap.size from by have := HB0.out.size; have := HB3.out.size; have := (World.block_lt_of_cell? w3 _ (HZ3.out w3 (Below.refl _ _)).1); exact this)
        have HZB := Lib.hid (show w0.heap.size ≤ w3.heap.size from by have := HB.out.size; have := hb3.size; omega)
        clear hb3 HRL HBW HZW g1 g2 g5
        cases good with
        | false =>
          have hba := laid1 w3 (.cells #[.bool false, .string ⟨#[]⟩, .slice none 0 0] 51)
          obtain ⟨wz, hwz⟩ : ∃ W, w3.alloc (.cells #[.bool false, .string ⟨#[]⟩, .slice none 0 0] 51) = W := ⟨_, rfl⟩
          have hq := cells_three (w := w3) (v0 := .bool false) (v1 := .string ⟨#[]⟩) (v2 := .slice none 0 0) (t := 51) (Below.refl _ _)
          have hrz := HR3.out.below hba
          have hs4 := HZ3.out _ hba
          rw [hwz] at hba hq hrz
          have HQ := Lib.hid hq
          have HRZ := Lib.hid hrz
          have HBZ := Lib.hid (HB3.out.trans (hba.mono HB3.out.size))
          have hs3 := HZ3.out wz hba
          have HS3 := Lib.hid hs3
          have HZBZ := Lib.hid (show w0.heap.size ≤ wz.heap.size from by have := HZB.out; have := hba.size; omega)
          have HWZ := Lib.hid hwz
          obtain ⟨s0, s1, s2⟩ := hs4
          clear hba hq hrz hwz HR3 HB3 HZ3 hs3
          go_wp2_with fail
          rw [HWZ.out]
          clear s0 s1 s2
          have HSS := Lib.hid (fun W (hb : Below wz.heap.size wz W) => (show (W.cell? ⟨w3.heap.size, 0, none⟩ = some (.bool false) ∧ W.cell? ⟨w3.heap.size, 1, none⟩ = some (.string ⟨#[]⟩) ∧ W.cell? ⟨w3.heap.size, 2, none⟩ = some (.slice none 0 0)) ∧ W.cell? ⟨w.heap.size, 1, none⟩ = some (.int .u64 gas) from by
            have k0 := World.block_lt_of_cell? _ _ HQ.out.1
            have k1 := World.block_lt_of_cell? _ _ HS3.out.2.1
            exact ⟨⟨(hb.cell (p := ⟨w3.heap.size, 0, none⟩) k0).trans HQ.out.1, (hb.cell (p := ⟨w3.heap.size, 1, none⟩) k0).trans HQ.out.2.1, (hb.cell (p := ⟨w3.heap.size, 2, none⟩) k0).trans HQ.out.2.2⟩, (hb.cell (p := ⟨w.heap.size, 1, none⟩) k1).trans HS3.out.2.1⟩))
          have b0 : Below wz.heap.size wz wz.drew := (Below.refl _ _).drew
          refine wp_region_held_drew (S := (fun W => (W.cell? ⟨w3.heap.size, 0, none⟩ = some (.bool false) ∧ W.cell? ⟨w3.heap.size, 1, none⟩ = some (.string ⟨#[]⟩) ∧ W.cell? ⟨w3.heap.size, 2, none⟩ = some (.slice none 0 0)) ∧ W.cell? ⟨w.heap.size, 1, none⟩ = some (.int .u64 gas))) (by kernel_rfl) (HSS.out _ b0) (fun hHeld => ?_)
          refine wpAnyH_take (i := 0) (v := ?_) rfl (by kernel_rfl) (by kernel_rfl) (by kernel_rfl) (fun _ _ _ h => h) (.inl ⟨by rfl, ?_⟩) (by assumption) ?_
          rotate_left 1
          · intro w0 hSw
            obtain ⟨⟨z0, z1, z2⟩, z3⟩ := hSw
            go_simp <;> with_reducible rfl
          try simp only [Act.put, List.getElem_toArray, List.getElem_cons_zero, List.setIfInBounds_toArray, List.set_cons_zero, List.set_cons_succ]
          refine wpAnyH_take (i := 1) (v := ?_) rfl (by kernel_rfl) (by kernel_rfl) (by kernel_rfl) (fun _ _ _ h => h) (.inl ⟨by rfl, ?_⟩) (by assumption) ?_
          rotate_left 1
          · intro w0 hSw
            go_simp <;> with_reducible rfl
          try simp only [Act.put, List.getElem_toArray, List.getElem_cons_zero, List.getElem_cons_succ, List.setIfInBounds_toArray, List.set_cons_zero, List.set_cons_succ]
          refine wpAnyH_take (i := 2) (v := ?_) rfl (by kernel_rfl) (by kernel_rfl) (by kernel_rfl) (fun _ _ _ h => h) (.inl ⟨by rfl, ?_⟩) (by assumption) ?_
          rotate_left 1
          · intro w0 hSw
            obtain ⟨⟨z0, z1, z2⟩, z3⟩ := hSw
            go_simp <;> with_reducible rfl
          try simp only [Act.put, List.getElem_toArray, List.getElem_cons_zero, List.getElem_cons_succ, List.setIfInBounds_toArray, List.set_cons_zero, List.set_cons_succ]
          refine wpAnyH_take (i := 5) (v := ?_) rfl (by kernel_rfl) (by kernel_rfl) (by kernel_rfl) (fun _ _ _ h => h) (.inl ⟨by rfl, ?_⟩) (by assumption) ?_
          rotate_left 1
          · intro w0 hSw
            go_simp <;> with_reducible rfl
          try simp only [Act.put, List.getElem_toArray, List.getElem_cons_zero, List.getElem_cons_succ, List.setIfInBounds_toArray, List.set_cons_zero, List.set_cons_succ]
          refine wpAnyH_ready (rs := [3]) (by kernel_rfl) (by simp) ?_
          refine AllReadyH.cons rfl (fun K hK => ?_) AllReadyH.nil
          go_simp
          go_at_call 36
          refine (HNL.out _).mono ?_
          rintro e v4 ⟨rfl, hb4⟩
          have b4 : Below wz.heap.size wz v4 := b0.trans (hb4.mono b0.size)
          clear hb4
          refine hK.out _ _ (HSS.out _ b4) (fun hHeld => ?_)
          clear hK K
          try simp only [Act.put, List.getElem_toArray, List.getElem_cons_zero, List.getElem_cons_succ, List.setIfInBounds_toArray, List.set_cons_zero, List.set_cons_succ]
          refine wpAnyH_ready (rs := [4]) (by kernel_rfl) (by simp) ?_
          refine AllReadyH.cons rfl (fun K hK => ?_) AllReadyH.nil
          go_simp
          go_at_call 30
          refine (text_any _ _).mono ?_
          rintro e v5 ⟨rfl, hb5⟩
          have b5 : Below wz.heap.size wz v5 := b4.trans (hb5.mono b4.size)
          clear hb5
          refine hK.out _ _ (HSS.out _ b5) (fun hHeld => ?_)
          clear hK K
          try simp only [Act.put, List.getElem_toArray, List.getElem_cons_zero, List.getElem_cons_succ, List.setIfInBounds_toArray, List.set_cons_zero, List.set_cons_succ]
          refine wpAnyH_ready (rs := [6]) (by kernel_rfl) (by simp) ?_
          refine AllReadyH.cons rfl (fun K hK => ?_) AllReadyH.nil
          go_simp
          go_at_call 35
          refine (list_any _ _ _ _).mono ?_
          rintro e v6 ⟨rfl, hb6⟩
          have b6 : Below wz.heap.size wz v6 := b5.trans (hb6.mono b5.size)
          clear hb6
          refine hK.out _ _ (HSS.out _ b6) (fun hHeld => ?_)
          clear hK K
          try simp only [Act.put, List.getElem_toArray, List.getElem_cons_zero, List.getElem_cons_succ, List.setIfInBounds_toArray, List.set_cons_zero, List.set_cons_succ]
          refine wpAnyH_ready (rs := [7]) (by kernel_rfl) (by simp) ?_
          refine AllReadyH.cons rfl (fun K hK => ?_) AllReadyH.nil
          go_simp
          have hal : ∃ W, v6.alloc (.cells #[.bool false, .string ⟨#[]⟩, .slice none 0 0, .bool false, .string ⟨(num gas).toArray⟩, .slice none 0 0, .bool true, .string ⟨#[]⟩, .slice pv k cv] 51) = W := ⟨_, rfl⟩
          obtain ⟨v7, hal⟩ := hal
          have hb7 : Below v6.heap.size v6 v7 := by rw [← hal]; exact laid1 v6 _
          have b7 : Below wz.heap.size wz v7 := b6.trans (hb7.mono b6.size)
          have HR7 := Lib.hid (show RIn v7 w0.heap.size (.slice (some ⟨v6.heap.size, 0, none⟩) 3 3) (rcptItem false gas ls).list from by
            rw [← hal]
            refine reads_new v6 w0.heap.size 3 [(.mk false (goodL false) [], .slice none 0 0), (itN gas, .slice none 0 0), (itL (ls.map logItem), .slice pv k cv)] rfl (by have := HZBZ.out; have := b6.size; omega) (fun q hq => ?_)
            simp only [List.mem_cons, List.not_mem_nil, or_false] at hq
            rcases hq with rfl | rfl | rfl
            · exact RIn.nil _ _
            · exact RIn.nil _ _
            · exact HRZ.out.below b6)
          rw [hal]
          clear hal hb7
          refine hK.out _ _ (HSS.out _ b7) (fun hHeld => ?_)
          clear hK K
          try simp only [Act.put, List.getElem_toArray, List.getElem_cons_zero, List.getElem_cons_succ, List.setIfInBounds_toArray, List.set_cons_zero, List.set_cons_succ]
          refine wpAnyH_ready (rs := [8]) (by kernel_rfl) (by simp) ?_
          refine AllReadyH.cons rfl (fun K hK => ?_) AllReadyH.nil
          go_simp
          go_at_call 35
          refine (list_any _ _ _ _).mono ?_
          rintro e v8 ⟨rfl, hb8⟩
          have b8 : Below wz.heap.size wz v8 := b7.trans (hb8.mono b7.size)
          have HR8 := Lib.hid (HR7.out.below hb8)
          clear hb8 HR7
          have hen := encode_any (rcptItem false gas ls) (.slice (some ⟨v6.heap.size, 0, none⟩) 3 3) v8 HSM.out.1 HSM.out.2 HR8.out.reads
          unfold encodeV at hen
          rw [HE.out] at hen
          dsimp only at hen
          have HEN := Lib.hid hen
          clear hen
          refine hK.out _ _ (HSS.out _ b8) (fun hHeld => ?_)
          clear hK K
          try simp only [Act.put, List.getElem_toArray, List.getElem_cons_zero, List.getElem_cons_succ, List.setIfInBounds_toArray, List.set_cons_zero, List.set_cons_succ]
          refine wpAnyH_ready (rs := [9]) (by kernel_rfl) (by simp) ?_
          refine AllReadyH.cons rfl (fun K hK => ?_) AllReadyH.nil
          go_simp
          go_at_call 29
          refine (HEN.out).mono ?_
          rintro e v9 ⟨rfl, hb9⟩
          have b9 : Below wz.heap.size wz v9 := b8.trans (hb9.mono b8.size)
          clear hb9
          refine hK.out _ _ (HSS.out _ b9) (fun hHeld => ?_)
          clear hK K
          try simp only [Act.put, List.getElem_toArray, List.getElem_cons_zero, List.getElem_cons_succ, List.setIfInBounds_toArray, List.set_cons_zero, List.set_cons_succ]
          refine wpAnyH_take (i := 10) (v := ?_) rfl (by kernel_rfl) (by kernel_rfl) (by kernel_rfl) (fun _ _ _ h => h) (.inl ⟨by rfl, ?_⟩) (by assumption) ?_
          rotate_left 1
          · intro w0 hSw
            go_simp <;> with_reducible rfl
          try simp only [Act.put, List.getElem_toArray, List.getElem_cons_zero, List.getElem_cons_succ, List.setIfInBounds_toArray, List.set_cons_zero, List.set_cons_succ]
          refine wpAnyH_take (i := 11) (v := ?_) rfl (by kernel_rfl) (by kernel_rfl) (by kernel_rfl) (fun _ _ _ h => h) (.inl ⟨by rfl, ?_⟩) (by assumption) ?_
          rotate_left 1
          · intro w0 hSw
            go_simp <;> with_reducible rfl
          try simp only [Act.put, List.getElem_toArray, List.getElem_cons_zero, List.getElem_cons_succ, List.setIfInBounds_toArray, List.set_cons_zero, List.set_cons_succ]
          refine wpAnyH_take (i := 12) (v := ?_) rfl (by kernel_rfl) (by kernel_rfl) (by kernel_rfl) (fun _ _ _ h => h) (.inl ⟨by rfl, ?_⟩) (by assumption) ?_
          rotate_left 1
          · intro w0 hSw
            go_simp <;> with_reducible rfl
          try simp only [Act.put, List.getElem_toArray, List.getElem_cons_zero, List.getElem_cons_succ, List.setIfInBounds_toArray, List.set_cons_zero, List.set_cons_succ]
          refine wpAnyH_take (i := 13) (v := ?_) rfl (by kernel_rfl) (by kernel_rfl) (by kernel_rfl) (fun _ _ _ h => h) (.inl ⟨by rfl, ?_⟩) (by assumption) ?_
          rotate_left 1
          · intro w0 hSw
            go_simp <;> with_reducible rfl
          try simp only [Act.put, List.getElem_toArray, List.getElem_cons_zero, List.getElem_cons_succ, List.setIfInBounds_toArray, List.set_cons_zero, List.set_cons_succ]
          refine wpAnyH_done (by kernel_rfl) ?_ 0
          go_wp2_with fail
          go_ret2
          exact ⟨rfl, HBZ.out.trans (b9.mono HBZ.out.size)⟩
        | true =>
          have hba := laid1 w3 (.cells #[.bool false, .string ⟨#[]⟩, .slice none 0 0] 51)
          obtain ⟨wy, hwy⟩ : ∃ W, w3.alloc (.cells #[.bool false, .string ⟨#[]⟩, .slice none 0 0] 51) = W := ⟨_, rfl⟩
          have HQY := Lib.hid (show HasCells wy w3.heap.size [.bool false, .string ⟨#[]⟩, .slice none 0 0] 51 from by rw [← hwy]; exact HasCells.new _ _ _)
          have hry := HR3.out.below hba
          have hs4 := HZ3.out _ hba
          rw [hwy] at hba hry
          have HRY := Lib.hid hry
          have HBY := Lib.hid (HB3.out.trans (hba.mono HB3.out.size))
          have HSY := Lib.hid hba
          have HWY := Lib.hid hwy
          obtain ⟨s0, s1, s2⟩ := hs4
          clear hba hry hwy HB3
          go_wp2_with fail
          rw [HWY.out]
          refine (text_any ⟨#[1]⟩ _).mono ?_
          rintro e w5 ⟨rfl, hb5⟩
          have HQ5 := Lib.hid (HQY.out.after hb5)
          have H35 := Lib.hid (HSY.out.trans (hb5.mono HSY.out.size))
          have HB5 := Lib.hid (HBY.out.trans (hb5.mono HBY.out.size))
          have HS5 := Lib.hid (HZ3.out w5 (HSY.out.trans (hb5.mono HSY.out.size)))
          have HL5 := Lib.hid (show w3.heap.size + 1 ≤ w5.heap.size from by have := HQY.out.lt; have := hb5.size; omega)
          clear hb5 HQY HRY HBY HSY HZ3 s0 s1 s2
          obtain ⟨wz, hwz⟩ : ∃ W, ((w5.setCell ⟨w3.heap.size, 0, none⟩ (.bool false)).setCell ⟨w3.heap.size, 1, none⟩ (.string ⟨#[1]⟩)).setCell ⟨w3.heap.size, 2, none⟩ (.slice none 0 0) = W := ⟨_, rfl⟩
          have hqz : HasCells wz w3.heap.size [.bool false, .string ⟨#[1]⟩, .slice none 0 0] 51 := by rw [← hwz]; exact ((HQ5.out.set 0 _).set 1 _).set 2 _
          have HQ := Lib.hid (show wz.cell? ⟨w3.heap.size, 0, none⟩ = some (.bool false) ∧ wz.cell? ⟨w3.heap.size, 1, none⟩ = some (.string ⟨#[1]⟩) ∧ wz.cell? ⟨w3.heap.size, 2, none⟩ = some (.slice none 0 0) from ⟨hqz.cell (j := 0) rfl, hqz.cell (j := 1) rfl, hqz.cell (j := 2) rfl⟩)
          have HNO := Lib.hid (show ∀ b, b ≠ w3.heap.size → wz.heap[b]? = w5.heap[b]? from fun b hb => by rw [← hwz]; exact (Below.heap_setCell _ ⟨w3.heap.size, 2, none⟩ _ b hb).trans ((Below.heap_setCell _ ⟨w3.heap.size, 1, none⟩ _ b hb).trans (Below.heap_setCell _ ⟨w3.heap.size, 0, none⟩ _ b hb)))
          have hwz5 : wz.heap.size = w5.heap.size := by rw [← hwz, World.size_setCell, World.size_setCell, World.size_setCell]
          have HZBZ := Lib.hid (show w0.heap.size ≤ wz.heap.size from by have := HZB.out; have := HL5.out; omega)
          have HRZ := Lib.hid (show RIn wz w0.heap.size (.slice pv k cv) (ls.map logItem) from
            ReadsIn.kept HR3.out (fun g u o hg hc => (World.cell?_of_block (a := ⟨g, o, none⟩) (HNO.out g (by have := hg.2; omega))).trans ((H35.out.cell (p := ⟨g, o, none⟩) hg.2).trans hc)) (fun _ hg => ⟨hg.1, by have := hg.2; have := H35.out.size; omega⟩))
          clear hwz5
          have HBZ := Lib.hid (show Below w.heap.size w wz from by
            rw [← hwz]
            have h := HGB.out
            exact ((HB5.out.setCell (p := ⟨w3.heap.size, 0, none⟩) (show w.heap.size ≤ w3.heap.size by omega) _).setCell (p := ⟨w3.heap.size, 1, none⟩) (show w.heap.size ≤ w3.heap.size by omega) _).setCell (p := ⟨w3.heap.size, 2, none⟩) (show w.heap.size ≤ w3.heap.size by omega) _)
          have HS3 := Lib.hid (show wz.cell? ⟨w.heap.size, 0, none⟩ = some (.bool true) ∧ wz.cell? ⟨w.heap.size, 1, none⟩ = some (.int .u64 gas) ∧ wz.cell? ⟨w.heap.size, 2, none⟩ = some (.slice p k c) from by
            have h : w.heap.size ≠ w3.heap.size := by have := HGB.out; omega
            exact ⟨(World.cell?_of_block (a := ⟨w.heap.size, 0, none⟩) (HNO.out _ h)).trans HS5.out.1, (World.cell?_of_block (a := ⟨w.heap.size, 1, none⟩) (HNO.out _ h)).trans HS5.out.2.1, (World.cell?_of_block (a := ⟨w.heap.size, 2, none⟩) (HNO.out _ h)).trans HS5.out.2.2⟩)
          have e0 := HQ5.out.cell (j := 0) rfl
          have e1 := HQ5.out.cell (j := 1) rfl
          have e2 := HQ5.out.cell (j := 2) rfl
          have f0 := HQ5.out.frozen 0
          have f1 := HQ5.out.frozen 1
          have f2 := HQ5.out.frozen 2
          have HWZ := Lib.hid hwz
          clear hwz hqz
          go_wp2_with fail
          rw [HWZ.out]
          clear e0 e1 e2 f0 f1 f2
          have HSS := Lib.hid (fun W (hb : Below wz.heap.size wz W) => (show (W.cell? ⟨w3.heap.size, 0, none⟩ = some (.bool false) ∧ W.cell? ⟨w3.heap.size, 1, none⟩ = some (.string ⟨#[1]⟩) ∧ W.cell? ⟨w3.heap.size, 2, none⟩ = some (.slice none 0 0)) ∧ W.cell? ⟨w.heap.size, 1, none⟩ = some (.int .u64 gas) from by
            have k0 := World.block_lt_of_cell? _ _ HQ.out.1
            have k1 := World.block_lt_of_cell? _ _ HS3.out.2.1
            exact ⟨⟨(hb.cell (p := ⟨w3.heap.size, 0, none⟩) k0).trans HQ.out.1, (hb.cell (p := ⟨w3.heap.size, 1, none⟩) k0).trans HQ.out.2.1, (hb.cell (p := ⟨w3.heap.size, 2, none⟩) k0).trans HQ.out.2.2⟩, (hb.cell (p := ⟨w.heap.size, 1, none⟩) k1).trans HS3.out.2.1⟩))
          have b0 : Below wz.heap.size wz wz.drew := (Below.refl _ _).drew
          refine wp_region_held_drew (S := (fun W => (W.cell? ⟨w3.heap.size, 0, none⟩ = some (.bool false) ∧ W.cell? ⟨w3.heap.size, 1, none⟩ = some (.string ⟨#[1]⟩) ∧ W.cell? ⟨w3.heap.size, 2, none⟩ = some (.slice none 0 0)) ∧ W.cell? ⟨w.heap.size, 1, none⟩ = some (.int .u64 gas))) (by kernel_rfl) (HSS.out _ b0) (fun hHeld => ?_)
          refine wpAnyH_take (i := 0) (v := ?_) rfl (by kernel_rfl) (by kernel_rfl) (by kernel_rfl) (fun _ _ _ h => h) (.inl ⟨by rfl, ?_⟩) (by assumption) ?_
          rotate_left 1
          · intro w0 hSw
            obtain ⟨⟨z0, z1, z2⟩, z3⟩ := hSw
            go_simp <;> with_reducible rfl
          try simp only [Act.put, List.getElem_toArray, List.getElem_cons_zero, List.setIfInBounds_toArray, List.set_cons_zero, List.set_cons_succ]
          refine wpAnyH_take (i := 1) (v := ?_) rfl (by kernel_rfl) (by kernel_rfl) (by kernel_rfl) (fun _ _ _ h => h) (.inl ⟨by rfl, ?_⟩) (by assumption) ?_
          rotate_left 1
          · intro w0 hSw
            go_simp <;> with_reducible rfl
          try simp only [Act.put, List.getElem_toArray, List.getElem_cons_zero, List.getElem_cons_succ, List.setIfInBounds_toArray, List.set_cons_zero, List.set_cons_succ]
          refine wpAnyH_take (i := 2) (v := ?_) rfl (by kernel_rfl) (by kernel_rfl) (by kernel_rfl) (fun _ _ _ h => h) (.inl ⟨by rfl, ?_⟩) (by assumption) ?_
          rotate_left 1
          · intro w0 hSw
            obtain ⟨⟨z0, z1, z2⟩, z3⟩ := hSw
            go_simp <;> with_reducible rfl
          try simp only [Act.put, List.getElem_toArray, List.getElem_cons_zero, List.getElem_cons_succ, List.setIfInBounds_toArray, List.set_cons_zero, List.set_cons_succ]
          refine wpAnyH_take (i := 5) (v := ?_) rfl (by kernel_rfl) (by kernel_rfl) (by kernel_rfl) (fun _ _ _ h => h) (.inl ⟨by rfl, ?_⟩) (by assumption) ?_
          rotate_left 1
          · intro w0 hSw
            go_simp <;> with_reducible rfl
          try simp only [Act.put, List.getElem_toArray, List.getElem_cons_zero, List.getElem_cons_succ, List.setIfInBounds_toArray, List.set_cons_zero, List.set_cons_succ]
          refine wpAnyH_ready (rs := [3]) (by kernel_rfl) (by simp) ?_
          refine AllReadyH.cons rfl (fun K hK => ?_) AllReadyH.nil
          go_simp
          go_at_call 36
          refine (HNL.out _).mono ?_
          rintro e v4 ⟨rfl, hb4⟩
          have b4 : Below wz.heap.size wz v4 := b0.trans (hb4.mono b0.size)
          clear hb4
          refine hK.out _ _ (HSS.out _ b4) (fun hHeld => ?_)
          clear hK K
          try simp only [Act.put, List.getElem_toArray, List.getElem_cons_zero, List.getElem_cons_succ, List.setIfInBounds_toArray, List.set_cons_zero, List.set_cons_succ]
          refine wpAnyH_ready (rs := [4]) (by kernel_rfl) (by simp) ?_
          refine AllReadyH.cons rfl (fun K hK => ?_) AllReadyH.nil
          go_simp
          go_at_call 30
          refine (text_any _ _).mono ?_
          rintro e v5 ⟨rfl, hb5⟩
          have b5 : Below wz.heap.size wz v5 := b4.trans (hb5.mono b4.size)
          clear hb5
          refine hK.out _ _ (HSS.out _ b5) (fun hHeld => ?_)
          clear hK K
          try simp only [Act.put, List.getElem_toArray, List.getElem_cons_zero, List.getElem_cons_succ, List.setIfInBounds_toArray, List.set_cons_zero, List.set_cons_succ]
          refine wpAnyH_ready (rs := [6]) (by kernel_rfl) (by simp) ?_
          refine AllReadyH.cons rfl (fun K hK => ?_) AllReadyH.nil
          go_simp
          go_at_call 35
          refine (list_any _ _ _ _).mono ?_
          rintro e v6 ⟨rfl, hb6⟩
          have b6 : Below wz.heap.size wz v6 := b5.trans (hb6.mono b5.size)
          clear hb6
          refine hK.out _ _ (HSS.out _ b6) (fun hHeld => ?_)
          clear hK K
          try simp only [Act.put, List.getElem_toArray, List.getElem_cons_zero, List.getElem_cons_succ, List.setIfInBounds_toArray, List.set_cons_zero, List.set_cons_succ]
          refine wpAnyH_ready (rs := [7]) (by kernel_rfl) (by simp) ?_
          refine AllReadyH.cons rfl (fun K hK => ?_) AllReadyH.nil
          go_simp
          have hal : ∃ W, v6.alloc (.cells #[.bool false, .string ⟨#[1]⟩, .slice none 0 0, .bool false, .string ⟨(num gas).toArray⟩, .slice none 0 0, .bool true, .string ⟨#[]⟩, .slice pv k cv] 51) = W := ⟨_, rfl⟩
          obtain ⟨v7, hal⟩ := hal
          have hb7 : Below v6.heap.size v6 v7 := by rw [← hal]; exact laid1 v6 _
          have b7 : Below wz.heap.size wz v7 := b6.trans (hb7.mono b6.size)
          have HR7 := Lib.hid (show RIn v7 w0.heap.size (.slice (some ⟨v6.heap.size, 0, none⟩) 3 3) (rcptItem true gas ls).list from by
            rw [← hal]
            refine reads_new v6 w0.heap.size 3 [(.mk false (goodL true) [], .slice none 0 0), (itN gas, .slice none 0 0), (itL (ls.map logItem), .slice pv k cv)] rfl (by have := HZBZ.out; have := b6.size; omega) (fun q hq => ?_)
            simp only [List.mem_cons, List.not_mem_nil, or_false] at hq
            rcases hq with rfl | rfl | rfl
            · exact RIn.nil _ _
            · exact RIn.nil _ _
            · exact HRZ.out.below b6)
          rw [hal]
          clear hal hb7
          refine hK.out _ _ (HSS.out _ b7) (fun hHeld => ?_)
          clear hK K
          try simp only [Act.put, List.getElem_toArray, List.getElem_cons_zero, List.getElem_cons_succ, List.setIfInBounds_toArray, List.set_cons_zero, List.set_cons_succ]
          refine wpAnyH_ready (rs := [8]) (by kernel_rfl) (by simp) ?_
          refine AllReadyH.cons rfl (fun K hK => ?_) AllReadyH.nil
          go_simp
          go_at_call 35
          refine (list_any _ _ _ _).mono ?_
          rintro e v8 ⟨rfl, hb8⟩
          have b8 : Below wz.heap.size wz v8 := b7.trans (hb8.mono b7.size)
          have HR8 := Lib.hid (HR7.out.below hb8)
          clear hb8 HR7
          have hen := encode_any (rcptItem true gas ls) (.slice (some ⟨v6.heap.size, 0, none⟩) 3 3) v8 HSM.out.1 HSM.out.2 HR8.out.reads
          unfold encodeV at hen
          rw [HE.out] at hen
          dsimp only at hen
          have HEN := Lib.hid hen
          clear hen
          refine hK.out _ _ (HSS.out _ b8) (fun hHeld => ?_)
          clear hK K
          try simp only [Act.put, List.getElem_toArray, List.getElem_cons_zero, List.getElem_cons_succ, List.setIfInBounds_toArray, List.set_cons_zero, List.set_cons_succ]
          refine wpAnyH_ready (rs := [9]) (by kernel_rfl) (by simp) ?_
          refine AllReadyH.cons rfl (fun K hK => ?_) AllReadyH.nil
          go_simp
          go_at_call 29
          refine (HEN.out).mono ?_
          rintro e v9 ⟨rfl, hb9⟩
          have b9 : Below wz.heap.size wz v9 := b8.trans (hb9.mono b8.size)
          clear hb9
          refine hK.out _ _ (HSS.out _ b9) (fun hHeld => ?_)
          clear hK K
          try simp only [Act.put, List.getElem_toArray, List.getElem_cons_zero, List.getElem_cons_succ, List.setIfInBounds_toArray, List.set_cons_zero, List.set_cons_succ]
          refine wpAnyH_take (i := 10) (v := ?_) rfl (by kernel_rfl) (by kernel_rfl) (by kernel_rfl) (fun _ _ _ h => h) (.inl ⟨by rfl, ?_⟩) (by assumption) ?_
          rotate_left 1
          · intro w0 hSw
            go_simp <;> with_reducible rfl
          try simp only [Act.put, List.getElem_toArray, List.getElem_cons_zero, List.getElem_cons_succ, List.setIfInBounds_toArray, List.set_cons_zero, List.set_cons_succ]
          refine wpAnyH_take (i := 11) (v := ?_) rfl (by kernel_rfl) (by kernel_rfl) (by kernel_rfl) (fun _ _ _ h => h) (.inl ⟨by rfl, ?_⟩) (by assumption) ?_
          rotate_left 1
          · intro w0 hSw
            go_simp <;> with_reducible rfl
          try simp only [Act.put, List.getElem_toArray, List.getElem_cons_zero, List.getElem_cons_succ, List.setIfInBounds_toArray, List.set_cons_zero, List.set_cons_succ]
          refine wpAnyH_take (i := 12) (v := ?_) rfl (by kernel_rfl) (by kernel_rfl) (by kernel_rfl) (fun _ _ _ h => h) (.inl ⟨by rfl, ?_⟩) (by assumption) ?_
          rotate_left 1
          · intro w0 hSw
            go_simp <;> with_reducible rfl
          try simp only [Act.put, List.getElem_toArray, List.getElem_cons_zero, List.getElem_cons_succ, List.setIfInBounds_toArray, List.set_cons_zero, List.set_cons_succ]
          refine wpAnyH_take (i := 13) (v := ?_) rfl (by kernel_rfl) (by kernel_rfl) (by kernel_rfl) (fun _ _ _ h => h) (.inl ⟨by rfl, ?_⟩) (by assumption) ?_
          rotate_left 1
          · intro w0 hSw
            go_simp <;> with_reducible rfl
          try simp only [Act.put, List.getElem_toArray, List.getElem_cons_zero, List.getElem_cons_succ, List.setIfInBounds_toArray, List.set_cons_zero, List.set_cons_succ]
          refine wpAnyH_done (by kernel_rfl) ?_ 0
          go_wp2_with fail
          go_ret2
          exact ⟨rfl, HBZ.out.trans (b9.mono HBZ.out.size)⟩
      · have g5 : (20 : Int) < k := by omega
        have hpe : rcptBytes good gas ls = ([], 160) := by
          unfold rcptBytes rcptRight
          rw [HN.out, decide_eq_false h20]
          simp
        have HE := Lib.hid (hpe.symm.trans HPE.out)
        clear h20 hpe
        go_wp2_with fail
        go_ret2
        have h := HE.out
        cases h
        exact ⟨rfl, HBW.out⟩
end Go.Proofs.YtmjblnhnadffmaaDoor
