/- Items that a call makes: head's number and texts, pharosref13's text, list, number, texts. -/
import Derived.Test.YtfbopnebfdkhdaaDoorShoT
import Derived.Test.YtfbopnebfdkhdaaDoorNumC
import Derived.Test.YtfbopnebfdkhdaaDoorShaE
namespace Go.Proofs.YtfbopnebfdkhdaaDoor
open Go.RowKit Go.Shelf Go.Lib
attribute [local go_sem] Oper.semAt_some

/-- items that lie in blocks from lo on -/
def RIn (w : World) (lo : Nat) (v : Value) (xs : List Item) : Prop := ReadsIn w (fun g => lo ≤ g ∧ g < w.heap.size) v xs
theorem RIn.below {w w' : World} {lo : Nat} {v : Value} {xs : List Item} (h : RIn w lo v xs) (hb : Below w.heap.size w w') : RIn w' lo v xs :=
  ReadsIn.kept h (fun g _ o hg hc => (hb.cell (p := ⟨g, o, none⟩) hg.2).trans hc) (fun _ hg => ⟨hg.1, Nat.lt_of_lt_of_le hg.2 hb.size⟩)
theorem RIn.mono {w : World} {lo lo' : Nat} {v : Value} {xs : List Item} (h : RIn w lo v xs) (hl : lo' ≤ lo) : RIn w lo' v xs := ReadsIn.mono h (fun _ hg => ⟨Nat.le_trans hl hg.1, hg.2⟩)
theorem RIn.nil (w : World) (lo : Nat) : RIn w lo (.slice none 0 0) [] := ReadsIn.nil _ _
theorem RIn.form {w : World} {lo : Nat} {v : Value} {xs : List Item} (h : RIn w lo v xs) : ∃ p cap, v = .slice p xs.length cap := ReadsIn.form h
theorem RIn.reads {w : World} {lo : Nat} {v : Value} {xs : List Item} (h : RIn w lo v xs) : Reads w w.heap.size v xs := ReadsIn.mono h (fun _ hg => hg.2)
/-- a store below -/
theorem RIn.store {w : World} {lo : Nat} {v : Value} {xs : List Item} (h : RIn w lo v xs) {g j : Nat} (hg : g < lo) (u : Value) : RIn (w.setCell ⟨g, j, none⟩ u) lo v xs :=
  ReadsIn.kept h (fun g' _ o hg' hc => (World.cell?_setCell_other _ _ _ _ (fun e => by cases e; omega)).trans hc) (fun _ hg' => ⟨hg'.1, by rw [World.size_setCell]; exact hg'.2⟩)
/-- an item as a value -/
def itemV (x : Item) (v : Value) : Value := .agg #[.bool x.isList, .string ⟨x.text.toArray⟩, v]
/-- what a call gives that makes an item -/
def GivesI (w : World) (x : Item) (e : Ending) (w' : World) : Prop := ∃ v, e = .returned (itemV x v) ∧ RIn w' w.heap.size v x.list ∧ Below w.heap.size w w'
/-- what a call gives that makes a list of items -/
def GivesL (w : World) (l : List Item) (e : Ending) (w' : World) : Prop := ∃ p n c, e = .returned (.agg #[.bool true, .string ⟨#[]⟩, .slice p n c]) ∧ RIn w' w.heap.size (.slice p n c) l ∧ Below w.heap.size w w'
theorem three_other {W : World} {b j g : Nat} {u : Value} (h : W.cell? ⟨b, j, none⟩ = some u) (hne : b ≠ g) (v0 v1 v2 : Value) : (((W.setCell ⟨g, 0, none⟩ v0).setCell ⟨g, 1, none⟩ v1).setCell ⟨g, 2, none⟩ v2).cell? ⟨b, j, none⟩ = some u := by
  rw [World.cell?_setCell_other _ _ _ _ (fun e => by cases e; exact hne rfl), World.cell?_setCell_other _ _ _ _ (fun e => by cases e; exact hne rfl), World.cell?_setCell_other _ _ _ _ (fun e => by cases e; exact hne rfl)]
  exact h
def itT (s : ByteArray) : Item := .mk false s.data.toList []
def itN (n : Nat) : Item := .mk false (num n) []
def itL (l : List Item) : Item := .mk true [] l
def itTs (l : List ByteArray) : Item := itL (l.map itT)
theorem bytes_back (s : ByteArray) : (⟨s.data.toList.toArray⟩ : ByteArray) = s := rfl
/-- a row of items just laid -/
theorem reads_new (w : World) (lo n : Nat) (l : List (Item × Value)) (hn : l.length = n) (hlo : lo ≤ w.heap.size) (h : ∀ q ∈ l, RIn w lo q.2 q.1.list) :
    RIn (w.alloc (.cells (itemCells l).toArray 80)) lo (.slice (some ⟨w.heap.size, 0, none⟩) n n) (l.map Prod.fst) := by
  subst hn
  have hb : Below w.heap.size w (w.alloc (.cells (itemCells l).toArray 80)) := (Below.refl _ _).alloc (Nat.le_refl _) _
  have hm : (l.map Prod.fst).length = l.length := by simp
  unfold RIn
  rw [← hm]
  refine ReadsIn.mk ⟨hlo, by simp⟩ (fun i x hx => ?_) (Nat.le_refl _)
  rw [List.getElem?_map] at hx
  cases hq : l[i]? with
  | none => rw [hq] at hx; cases hx
  | some q =>
    rw [hq] at hx
    cases hx
    have hc := fun j (hj : j < 3) => itemCells_at l i j q hq hj
    have hcell : ∀ j u, (itemCells l)[j]? = some u → (w.alloc (.cells (itemCells l).toArray 80)).cell? ⟨w.heap.size, j, none⟩ = some u := fun j u hu => cells_at w _ _ j u hu
    rw [Nat.zero_add]
    refine ⟨hcell _ _ (by simpa using hc 0 (by omega)), hcell _ _ (by simpa using hc 1 (by omega)), q.2, hcell _ _ (by simpa using hc 2 (by omega)), ?_⟩
    exact (h q (List.mem_of_getElem? hq)).below hb
/-- the cell of the result, behind calls -/
theorem zero_cells {w W : World} (hb : Below (w.alloc (.cells #[.bool false, .string ⟨#[]⟩, .slice none 0 0] 80)).heap.size (w.alloc (.cells #[.bool false, .string ⟨#[]⟩, .slice none 0 0] 80)) W) : W.cell? ⟨w.heap.size, 0, none⟩ = some (.bool false) ∧ W.cell? ⟨w.heap.size, 1, none⟩ = some (.string ⟨#[]⟩) ∧ W.cell? ⟨w.heap.size, 2, none⟩ = some (.slice none 0 0) ∧
    W.frozen? ⟨w.heap.size, 0, none⟩ = false ∧ W.frozen? ⟨w.heap.size, 1, none⟩ = false ∧ W.frozen? ⟨w.heap.size, 2, none⟩ = false := by
  have hx : W.heap[w.heap.size]? = some (.cells #[.bool false, .string ⟨#[]⟩, .slice none 0 0] 80 (0, 0)) := (hb.block _ (by simp)).trans (cells3_new w _ _ _ _)
  refine ⟨by rw [World.cell?, hx]; rfl, by rw [World.cell?, hx]; rfl, by rw [World.cell?, hx]; rfl, by rw [World.frozen?, hx]; simp, by rw [World.frozen?, hx]; simp, by rw [World.frozen?, hx]; simp⟩
theorem three_below {w W : World} (hb : Below w.heap.size w W) (v0 v1 v2 : Value) : Below w.heap.size w (((W.setCell ⟨w.heap.size, 0, none⟩ v0).setCell ⟨w.heap.size, 1, none⟩ v1).setCell ⟨w.heap.size, 2, none⟩ v2) :=
  ((hb.setCell (p := ⟨w.heap.size, 0, none⟩) (Nat.le_refl _) v0).setCell (p := ⟨w.heap.size, 1, none⟩) (Nat.le_refl _) v1).setCell (p := ⟨w.heap.size, 2, none⟩) (Nat.le_refl _) v2
theorem three_reads {w W : World} {v : Value} {xs : List Item} (h : RIn W (w.heap.size + 1) v xs) (v0 v1 v2 : Value) : RIn (((W.setCell ⟨w.heap.size, 0, none⟩ v0).setCell ⟨w.heap.size, 1, none⟩ v1).setCell ⟨w.heap.size, 2, none⟩ v2) (w.heap.size + 1) v xs :=
  ((h.store (Nat.lt_succ_self _) v0).store (Nat.lt_succ_self _) v1).store (Nat.lt_succ_self _) v2
theorem wpList_appendJ {ops : Array Oper} {rest : List Oper} {o : Oper} {a : Act} {w : World} {Q : Exit → Act → World → Prop} (hgd : o.guard = none) (s x : Operand)
    (ho : o.op = .call { callee := .builtin .append, args := #[s, x], argTypes := #[76, 76] })
    (base : Nat) (v : Value) (l : List (Item × Value)) (hs : a.eval s = v) (hown : OwnI base w v l) (ad : Addr) (c : Nat) (q : Item × Value) (hq : ∃ p n c, q.2 = .slice p n c) (hx : a.eval x = .slice (some ad) 1 c)
    (hnews : ∀ j u, (itemCells [q])[j]? = some u → w.cell? (ad.add j) = some u) (h63 : l.length ≤ 1099511627776) (hbase : base ≤ w.heap.size)
    (hK : ∀ v' w', OwnI base w' v' (l ++ [q]) → w.grownBy w' v.ownBlock → wpList Tryd.prog ops Q rest (a.put o.dst v') w') : wpList Tryd.prog ops Q (o :: rest) a w := by
  obtain ⟨v', w', hrun, r1, r2, _⟩ := run_appendI hown ad c q hq hnews h63 hbase o.type
  refine wpList_plain hgd fun _ hK' => ?_
  unfold Oper.wp
  simp [execOp, ho, resolve, invoke, builtin, hs, hx, hrun, Result.andThen]
  exact hK' _ _ (hK v' w' r1 r2)
theorem OwnI.lt' {base : Nat} {w : World} {v : Value} {l : List (Item × Value)} (h : OwnI base w v l) : ∀ k, v.ownBlock = some k → base ≤ k ∧ k < w.heap.size := World.ownsRow.lt h
theorem OwnI.form' {base : Nat} {w : World} {v : Value} {l : List (Item × Value)} (h : OwnI base w v l) : ∃ p c, v = .slice p l.length c := by
  obtain ⟨_, ⟨rfl, h0⟩ | ⟨g, cap, cur, rfl, _⟩⟩ := h
  · exact ⟨none, 0, by rw [h0]⟩
  · exact ⟨_, _, rfl⟩
theorem OwnI.after {base : Nat} {w w' : World} {v : Value} {l : List (Item × Value)} (h : OwnI base w v l) (hb : Below w.heap.size w w') : OwnI base w' v l := by
  have hl := h.lt'
  obtain ⟨h1, h2⟩ := h
  refine ⟨h1, ?_⟩
  rcases h2 with h2 | ⟨g, cap, cur, hv, hg, hh, r⟩
  · exact .inl h2
  · exact .inr ⟨g, cap, cur, hv, hg, by rw [hb.block g (hl g (by rw [hv]; rfl)).2]; exact hh, r⟩
/-- a row of texts, as items -/
def textRow (l : List ByteArray) : List (Item × Value) := l.map fun s => (itT s, .slice none 0 0)
theorem OwnI.texts {base : Nat} {w : World} {v : Value} {l : List ByteArray} (h : OwnI base w v (textRow l)) : RIn w base v (l.map itT) := by
  have h' := h
  have hm : (textRow l).map Prod.fst = l.map itT := by unfold textRow; rw [List.map_map]; rfl
  obtain ⟨_, ⟨rfl, hn⟩ | ⟨g, cap, cur, rfl, hb, hg, hcap, _⟩⟩ := h
  · obtain rfl : l = [] := by
      have := List.length_eq_zero_iff.1 hn
      unfold textRow at this
      simpa using this
    exact RIn.nil _ _
  · rw [← hm]
    have hlen : ((textRow l).map Prod.fst).length = (textRow l).length := by simp
    unfold RIn
    rw [← hlen]
    refine ReadsIn.mk ⟨hb, (Array.getElem?_eq_some_iff.1 hg).1⟩ (fun i x hx => ?_) (by rw [hlen]; exact hcap)
    rw [List.getElem?_map] at hx
    cases hq : (textRow l)[i]? with
    | none => rw [hq] at hx; cases hx
    | some q =>
      rw [hq] at hx
      cases hx
      have hi := (List.getElem?_eq_some_iff.1 hq).1
      have hc := fun j (hj : j < 3) => World.ownsRow.cellAt h' (i * 3 + j) (by omega)
      have hq2 : q.2 = .slice none 0 0 ∧ q.1.list = [] := by
        unfold textRow at hq
        rw [List.getElem?_map] at hq
        cases hs : l[i]? with
        | none => rw [hs] at hq; cases hq
        | some s => rw [hs] at hq; cases hq; exact ⟨rfl, rfl⟩
      rw [Nat.zero_add]
      refine ⟨?_, ?_, q.2, ?_, ?_⟩
      · have := hc 0 (by omega); rw [itemCells_at _ i 0 q hq (by omega)] at this; simpa using this
      · have := hc 1 (by omega); rw [itemCells_at _ i 1 q hq (by omega)] at this; simpa using this
      · have := hc 2 (by omega); rw [itemCells_at _ i 2 q hq (by omega)] at this; simpa using this
      · rw [hq2.1, hq2.2]; exact ReadsIn.nil _ _
set_option maxRecDepth 100000 in
theorem rtext_any (s : ByteArray) (w : World) : Calls Tryd.prog 74 #[.string s] w fun e w' => e = .returned (.agg #[.bool false, .string s, .slice none 0 0]) ∧ Below w.heap.size w w' := by
  go_enter Tryd.func74, Tryd.ntmps74
  go_wp2
  refine bodyPost_ret (results_item0 rfl _ _ w.heap.size (.bool false) (.string s) (.slice none 0 0) rfl ?_ ?_ ?_) rfl ?_
  · simp [go_sem]
  · simp [go_sem]
  · simp [go_sem]
  exact ⟨rfl, laid1 w _⟩
set_option maxRecDepth 100000 in
theorem rlist_any (p : Option Addr) (n c : Nat) (w : World) : Calls Tryd.prog 67 #[.slice p n c] w fun e w' => e = .returned (.agg #[.bool true, .string ⟨#[]⟩, .slice p n c]) ∧ Below w.heap.size w w' := by
  go_enter Tryd.func67, Tryd.ntmps67
  go_wp2
  refine bodyPost_ret (results_item0 rfl _ _ w.heap.size (.bool true) (.string ⟨#[]⟩) (.slice p n c) rfl ?_ ?_ ?_) rfl ?_
  · simp [go_sem]
  · simp [go_sem]
  · simp [go_sem]
  exact ⟨rfl, laid1 w _⟩
set_option maxRecDepth 100000 in
set_option maxHeartbeats 1600000 in
theorem itNumber_any (n : Nat) (w : World) (hn : n < 18446744073709551616) : Calls Tryd.prog 71 #[.int .u64 n] w fun e w' => e = .returned (.agg #[.bool false, .string ⟨(num n).toArray⟩, .slice none 0 0]) ∧ Below w.heap.size w w' := by
  have h1 := fun W => number_any n W hn
  obtain ⟨s, hs⟩ : ∃ s : ByteArray, ⟨(num n).toArray⟩ = s := ⟨_, rfl⟩
  rw [hs] at h1 ⊢
  have H1 := Lib.hid h1
  have HB0 := Lib.hid (laid1 w (.cells #[.bool false, .string ⟨#[]⟩, .slice none 0 0] 80))
  clear h1 hs hn
  go_enter Tryd.func71, Tryd.ntmps71
  go_wp2_with fail
  refine (H1.out _).mono ?_
  rintro e w1 ⟨rfl, hb1⟩
  go_wp2_with fail
  refine (text_any s w1).mono ?_
  rintro e w2 ⟨rfl, hb2⟩
  have hb : Below (w.alloc (.cells #[.bool false, .string ⟨#[]⟩, .slice none 0 0] 80)).heap.size (w.alloc (.cells #[.bool false, .string ⟨#[]⟩, .slice none 0 0] 80)) w2 := hb1.trans (hb2.mono hb1.size)
  have HW := Lib.hid (three_below (HB0.out.trans (hb.mono HB0.out.size)))
  obtain ⟨p0, p1, p2, f0, f1, f2⟩ := zero_cells hb
  clear hb hb1 hb2
  go_wp2_with fail
  refine bodyPost_ret (results_item0 rfl _ _ w.heap.size (.bool false) (.string s) (.slice none 0 0) rfl ?_ ?_ ?_) rfl ?_
  · simp [go_sem, p0]
  · simp [go_sem, p1]
  · simp [go_sem, p2]
  exact ⟨rfl, HW.out _ _ _⟩
set_option maxRecDepth 100000 in
set_option maxHeartbeats 1600000 in
theorem ritNumber_any (n : Nat) (w : World) (hn : n < 18446744073709551616) : Calls Tryd.prog 73 #[.int .u64 n] w fun e w' => e = .returned (.agg #[.bool false, .string ⟨(num n).toArray⟩, .slice none 0 0]) ∧ Below w.heap.size w w' := by
  have h1 := fun W => numberRef_any n W hn
  obtain ⟨s, hs⟩ : ∃ s : ByteArray, ⟨(num n).toArray⟩ = s := ⟨_, rfl⟩
  rw [hs] at h1 ⊢
  have H1 := Lib.hid h1
  have HB0 := Lib.hid (laid1 w (.cells #[.bool false, .string ⟨#[]⟩, .slice none 0 0] 80))
  clear h1 hs hn
  go_enter Tryd.func73, Tryd.ntmps73
  go_wp2_with fail
  refine (H1.out _).mono ?_
  rintro e w1 ⟨rfl, hb1⟩
  go_wp2_with fail
  refine (rtext_any s w1).mono ?_
  rintro e w2 ⟨rfl, hb2⟩
  have hb : Below (w.alloc (.cells #[.bool false, .string ⟨#[]⟩, .slice none 0 0] 80)).heap.size (w.alloc (.cells #[.bool false, .string ⟨#[]⟩, .slice none 0 0] 80)) w2 := hb1.trans (hb2.mono hb1.size)
  have HW := Lib.hid (three_below (HB0.out.trans (hb.mono HB0.out.size)))
  obtain ⟨p0, p1, p2, f0, f1, f2⟩ := zero_cells hb
  clear hb hb1 hb2
  go_wp2_with fail
  refine bodyPost_ret (results_item0 rfl _ _ w.heap.size (.bool false) (.string s) (.slice none 0 0) rfl ?_ ?_ ?_) rfl ?_
  · simp [go_sem, p0]
  · simp [go_sem, p1]
  · simp [go_sem, p2]
  exact ⟨rfl, HW.out _ _ _⟩
theorem addr_add' (g j : Nat) : (⟨g, 0, none⟩ : Addr).add j = ⟨g, j, none⟩ := by
  unfold Addr.add; split
  · rename_i h0; subst h0; rfl
  · simp
set_option maxRecDepth 100000 in
set_option maxHeartbeats 3200000 in
theorem itTexts_any (v : Value) (xs : List ByteArray) (w : World) (hv : Strs w v xs) (hN : xs.length ≤ 1048576) : Calls Tryd.prog 65 #[v] w (GivesL w (xs.map itT)) := by
  obtain ⟨p, c, rfl, hc, hcell⟩ := hv
  have HC := Lib.hid hcell
  obtain ⟨n, hn⟩ : ∃ n, xs.length = n := ⟨_, rfl⟩
  rw [hn] at hN hc ⊢
  have HN := Lib.hid hn
  have HB0 := Lib.hid (laid1 w (.cells #[.bool false, .string ⟨#[]⟩, .slice none 0 0] 80))
  clear hcell hn
  go_enter Tryd.func65, Tryd.ntmps65
  go_wp2_with fail
  obtain ⟨w0, hw0⟩ : ∃ w0, w.alloc (.cells #[.bool false, .string ⟨#[]⟩, .slice none 0 0] 80) = w0 := ⟨_, rfl⟩
  have hz0 : w.heap.size + 1 ≤ w0.heap.size := by rw [← hw0]; simp
  have HZ := Lib.hid (fun W (hb : Below w0.heap.size w0 W) => zero_cells (w := w) (W := W) (by rw [hw0]; exact hb))
  rw [hw0] at HB0 ⊢
  clear hw0
  go_loopw [3, 8] (fun v i wr => ∃ k : Nat, k ≤ n ∧ i = .int .i64 k ∧ Aside (OwnI w0.heap.size wr v (textRow (xs.take k))) ∧ Aside (Below w0.heap.size w0 wr)) (fun _ i _ => n - (RowKit.intOf i).toNat)
  case atStart => exact ⟨0, Nat.zero_le _, rfl, OwnI.nil _ _, Below.refl _ _⟩
  case round =>
    obtain ⟨k, hk, rfl, HO, HB⟩ := hrel
    by_cases hlt : k < n
    · obtain ⟨x, hx⟩ : ∃ x, xs[k]? = some x := ⟨_, List.getElem?_eq_getElem (by rw [HN.out]; exact hlt)⟩
      obtain ⟨bk, o, rfl, hbk, hcl⟩ : ∃ bk o, p = some ⟨bk, o, none⟩ ∧ bk < w.heap.size ∧ ∀ (j : Nat) x, xs[j]? = some x → w.cell? ⟨bk, o + j, none⟩ = some (.string x) := by
        rcases HC.out with h | ⟨bk, o, h1, h2, h3⟩
        · rw [h] at hx; cases hx
        · exact ⟨bk, o, h1, h2, h3⟩
      have hbw : Below w.heap.size w wr := HB0.out.trans (HB.out.mono (by omega))
      have c0 : wr.cell? ⟨bk, o + k, none⟩ = some (.string x) := (hbw.cell (p := ⟨bk, o + k, none⟩) hbk).trans (hcl k x hx)
      have hts : textRow (xs.take (k + 1)) = textRow (xs.take k) ++ [(itT x, .slice none 0 0)] := by unfold textRow; rw [List.take_add_one, hx]; simp
      have hll : (textRow (xs.take k)).length = k := by unfold textRow; rw [List.length_map, List.length_take, HN.out]; omega
      obtain ⟨L, hL⟩ : ∃ L, textRow (xs.take k) = L := ⟨_, rfl⟩
      have ho := HO.out
      rw [hL] at hts hll ho
      obtain ⟨pv, cv, hv⟩ := ho.form'
      rw [hll] at hv
      subst hv
      have HTS := Lib.hid hts
      have HLL := Lib.hid hll
      have HO1 := Lib.hid ho
      have g1 : (0 : Int) ≤ k := by omega
      have g2 : (k : Int) < n := by omega
      clear hts hll ho hL hx HO hcl hbw
      go_wp2_with fail
      refine (text_any x wr).mono ?_
      rintro e w1 ⟨rfl, hb1⟩
      have HO2 := Lib.hid (HO1.out.after hb1)
      have HB1 := Lib.hid (HB.out.trans (hb1.mono HB.out.size))
      clear hb1 HO1 HB c0
      go_wp2_with (at_builtin; refine wpList_appendJ rfl _ _ rfl w0.heap.size _ L rfl (HO2.out.alloc _) ⟨w1.heap.size, 0, none⟩ 1 (itT x, .slice none 0 0) ⟨_, _, _, rfl⟩ rfl ?c0 ?c1 ?c2 ?_)
      case c0 => exact fun j u hu => by rw [addr_add']; exact cells_at w1 (itemCells [(itT x, .slice none 0 0)]) _ j u hu
      case c1 => rw [HLL.out]; omega
      case c2 => have := HB1.out.size; simp; omega
      intro v3 w3 ho3 hg3
      have hb3 : Below w0.heap.size w0 w3 := (HB1.out.alloc HB1.out.size _).grown hg3 (by have := HB1.out.size; simp; omega) (fun r e => (HO2.out.lt' r e).1)
      rw [← HTS.out] at ho3
      have HO3 := Lib.hid ho3
      have HB3 := Lib.hid hb3
      clear ho3 hg3 hb3 HO2 HB1
      go_wp2
      go_roundw
      case rel => exact ⟨k + 1, by omega, by go_num, HO3.out, HB3.out⟩
      case measure => simp [RowKit.intOf]; omega
    · obtain rfl : k = n := by omega
      have ho := HO.out
      rw [List.take_of_length_le (by rw [HN.out]; omega)] at ho
      have hr := ho.texts
      obtain ⟨pv, cv, hv⟩ := hr.form
      rw [List.length_map, HN.out] at hv
      subst hv
      have HR := Lib.hid hr
      clear ho HO hr
      go_wp2_with fail
      refine (list_any pv k cv wr).mono ?_
      rintro e w2 ⟨rfl, hb2⟩
      have hb : Below w0.heap.size w0 w2 := HB.out.trans (hb2.mono HB.out.size)
      have HR2 := Lib.hid (RIn.mono (HR.out.below hb2) hz0)
      have HW := Lib.hid (three_below (HB0.out.trans (hb.mono (by omega))))
      obtain ⟨p0, p1, p2, f0, f1, f2⟩ := HZ.out w2 hb
      clear hb hb2 HR HB
      go_wp2_with fail
      refine bodyPost_ret (results_item0 rfl _ _ w.heap.size (.bool true) (.string ⟨#[]⟩) (.slice pv k cv) rfl ?_ ?_ ?_) rfl ?_
      · simp [go_sem, p0]
      · simp [go_sem, p1]
      · simp [go_sem, p2]
      refine ⟨pv, k, cv, rfl, (three_reads HR2.out _ _ _).mono (by omega), HW.out _ _ _⟩
set_option maxRecDepth 100000 in
set_option maxHeartbeats 3200000 in
theorem ritTexts_any (v : Value) (xs : List ByteArray) (w : World) (hv : Strs w v xs) (hN : xs.length ≤ 1048576) : Calls Tryd.prog 70 #[v] w (GivesL w (xs.map itT)) := by
  obtain ⟨p, c, rfl, hc, hcell⟩ := hv
  have HC := Lib.hid hcell
  obtain ⟨n, hn⟩ : ∃ n, xs.length = n := ⟨_, rfl⟩
  rw [hn] at hN hc ⊢
  have HN := Lib.hid hn
  have HB0 := Lib.hid (laid1 w (.cells #[.bool false, .string ⟨#[]⟩, .slice none 0 0] 80))
  clear hcell hn
  go_enter Tryd.func70, Tryd.ntmps70
  go_wp2_with fail
  obtain ⟨w0, hw0⟩ : ∃ w0, w.alloc (.cells #[.bool false, .string ⟨#[]⟩, .slice none 0 0] 80) = w0 := ⟨_, rfl⟩
  have hz0 : w.heap.size + 1 ≤ w0.heap.size := by rw [← hw0]; simp
  have HZ := Lib.hid (fun W (hb : Below w0.heap.size w0 W) => zero_cells (w := w) (W := W) (by rw [hw0]; exact hb))
  rw [hw0] at HB0 ⊢
  clear hw0
  go_loopw [3, 4] (fun v i wr => ∃ k : Nat, k ≤ n ∧ i = .int .i64 k ∧ Aside (OwnI w0.heap.size wr v (textRow (xs.take k))) ∧ Aside (Below w0.heap.size w0 wr)) (fun _ i _ => n - (RowKit.intOf i).toNat)
  case atStart => exact ⟨0, Nat.zero_le _, rfl, OwnI.nil _ _, Below.refl _ _⟩
  case round =>
    obtain ⟨k, hk, rfl, HO, HB⟩ := hrel
    by_cases hlt : k < n
    · obtain ⟨x, hx⟩ : ∃ x, xs[k]? = some x := ⟨_, List.getElem?_eq_getElem (by rw [HN.out]; exact hlt)⟩
      obtain ⟨bk, o, rfl, hbk, hcl⟩ : ∃ bk o, p = some ⟨bk, o, none⟩ ∧ bk < w.heap.size ∧ ∀ (j : Nat) x, xs[j]? = some x → w.cell? ⟨bk, o + j, none⟩ = some (.string x) := by
        rcases HC.out with h | ⟨bk, o, h1, h2, h3⟩
        · rw [h] at hx; cases hx
        · exact ⟨bk, o, h1, h2, h3⟩
      have hbw : Below w.heap.size w wr := HB0.out.trans (HB.out.mono (by omega))
      have c0 : wr.cell? ⟨bk, o + k, none⟩ = some (.string x) := (hbw.cell (p := ⟨bk, o + k, none⟩) hbk).trans (hcl k x hx)
      have hts : textRow (xs.take (k + 1)) = textRow (xs.take k) ++ [(itT x, .slice none 0 0)] := by unfold textRow; rw [List.take_add_one, hx]; simp
      have hll : (textRow (xs.take k)).length = k := by unfold textRow; rw [List.length_map, List.length_take, HN.out]; omega
      obtain ⟨L, hL⟩ : ∃ L, textRow (xs.take k) = L := ⟨_, rfl⟩
      have ho := HO.out
      rw [hL] at hts hll ho
      obtain ⟨pv, cv, hv⟩ := ho.form'
      rw [hll] at hv
      subst hv
      have HTS := Lib.hid hts
      have HLL := Lib.hid hll
      have HO1 := Lib.hid ho
      have g1 : (0 : Int) ≤ k := by omega
      have g2 : (k : Int) < n := by omega
      clear hts hll ho hL hx HO hcl hbw
      go_wp2_with fail
      refine (rtext_any x wr).mono ?_
      rintro e w1 ⟨rfl, hb1⟩
      have HO2 := Lib.hid (HO1.out.after hb1)
      have HB1 := Lib.hid (HB.out.trans (hb1.mono HB.out.size))
      clear hb1 HO1 HB c0
      go_wp2_with (at_builtin; refine wpList_appendJ rfl _ _ rfl w0.heap.size _ L rfl (HO2.out.alloc _) ⟨w1.heap.size, 0, none⟩ 1 (itT x, .slice none 0 0) ⟨_, _, _, rfl⟩ rfl ?c0 ?c1 ?c2 ?_)
      case c0 => exact fun j u hu => by rw [addr_add']; exact cells_at w1 (itemCells [(itT x, .slice none 0 0)]) _ j u hu
      case c1 => rw [HLL.out]; omega
      case c2 => have := HB1.out.size; simp; omega
      intro v3 w3 ho3 hg3
      have hb3 : Below w0.heap.size w0 w3 := (HB1.out.alloc HB1.out.size _).grown hg3 (by have := HB1.out.size; simp; omega) (fun r e => (HO2.out.lt' r e).1)
      rw [← HTS.out] at ho3
      have HO3 := Lib.hid ho3
      have HB3 := Lib.hid hb3
      clear ho3 hg3 hb3 HO2 HB1
      go_wp2
      go_roundw
      case rel => exact ⟨k + 1, by omega, by go_num, HO3.out, HB3.out⟩
      case measure => simp [RowKit.intOf]; omega
    · obtain rfl : k = n := by omega
      have ho := HO.out
      rw [List.take_of_length_le (by rw [HN.out]; omega)] at ho
      have hr := ho.texts
      obtain ⟨pv, cv, hv⟩ := hr.form
      rw [List.length_map, HN.out] at hv
      subst hv
      have HR := Lib.hid hr
      clear ho HO hr
      go_wp2_with fail
      refine (rlist_any pv k cv wr).mono ?_
      rintro e w2 ⟨rfl, hb2⟩
      have hb : Below w0.heap.size w0 w2 := HB.out.trans (hb2.mono HB.out.size)
      have HR2 := Lib.hid (RIn.mono (HR.out.below hb2) hz0)
      have HW := Lib.hid (three_below (HB0.out.trans (hb.mono (by omega))))
      obtain ⟨p0, p1, p2, f0, f1, f2⟩ := HZ.out w2 hb
      clear hb hb2 HR HB
      go_wp2_with fail
      refine bodyPost_ret (results_item0 rfl _ _ w.heap.size (.bool true) (.string ⟨#[]⟩) (.slice pv k cv) rfl ?_ ?_ ?_) rfl ?_
      · simp [go_sem, p0]
      · simp [go_sem, p1]
      · simp [go_sem, p2]
      refine ⟨pv, k, cv, rfl, (three_reads HR2.out _ _ _).mono (by omega), HW.out _ _ _⟩
end Go.Proofs.YtfbopnebfdkhdaaDoor
