/- Contract of pharosref13.lightOf. -/
import Derived.Test.YtfbopnebfdkhdaaDoorQfB
import Derived.Test.YtfbopnebfdkhdaaDoorRdJ
namespace Go.Proofs.YtfbopnebfdkhdaaDoor
open Go.RowKit Go.Shelf Go.Lib
attribute [local go_sem] Oper.semAt_some

theorem lightZ_one : lightZ.toArray.all (·.oneCell') = true := all_oneCell_toArray (fun v hv => by
  unfold lightZ at hv
  simp only [List.mem_cons, List.not_mem_nil, or_false] at hv
  rcases hv with rfl | rfl | rfl | rfl | rfl | rfl | rfl | rfl | rfl <;> rfl)
theorem opnB_many (x : Item) (m : Nat) : opnB x m = !(x.isList && ((x.list.length : Int) == (m : Int))) := by
  unfold opnB
  by_cases h : x.list.length = m
  · simp [h]
  · have h2 : ((x.list.length : Int) == (m : Int)) = false := by simp; omega
    rw [h2]
    simp
    exact Or.inr (by omega)
/-- the cells of an item at an offset, in every world behind -/
def ItAt (w : World) (g o : Nat) (x : Item) (v : Value) : Prop := ∀ W, Below w.heap.size w W → W.cell? ⟨g, o, none⟩ = some (.bool x.isList) ∧ W.cell? ⟨g, o + 1, none⟩ = some (.string (txtB x)) ∧ W.cell? ⟨g, o + 2, none⟩ = some v
/-- a row of items, read item by item, in every world behind -/
theorem Reads.row {w : World} {p : Option Addr} {n c : Nat} {xs : List Item} (h : Reads w w.heap.size (.slice p n c) xs) (h0 : 0 < n) : ∃ g o, p = some ⟨g, o, none⟩ ∧ ∀ i x, xs[i]? = some x → ∃ p' c', (∀ W, Below w.heap.size w W → W.cell? ⟨g, o + i * 3, none⟩ = some (.bool x.isList) ∧ W.cell? ⟨g, o + i * 3 + 1, none⟩ = some (.string (txtB x)) ∧ W.cell? ⟨g, o + i * 3 + 2, none⟩ = some (.slice p' x.list.length c')) ∧
    Reads w w.heap.size (.slice p' x.list.length c') x.list := by
  obtain ⟨_, g, o, hp, hg, hat⟩ := Reads.at h h0
  refine ⟨g, o, hp, fun i x hx => ?_⟩
  obtain ⟨h0, h1, v, h2, h3⟩ := hat i x hx
  obtain ⟨p', c', rfl⟩ := h3.form
  exact ⟨p', c', fun W hb => ⟨(hb.cell (p := ⟨g, o + i * 3, none⟩) hg).trans h0, (hb.cell (p := ⟨g, o + i * 3 + 1, none⟩) hg).trans h1, (hb.cell (p := ⟨g, o + i * 3 + 2, none⟩) hg).trans h2⟩, h3⟩
theorem many_list {x : Item} {m : Nat} (h : (x.isList && ((x.list.length : Int) == (m : Int))) = true) : x.isList = true ∧ x.list.length = m := by
  rw [Bool.and_eq_true] at h
  exact ⟨h.1, by have := h.2; simp at this; omega⟩
theorem list3 {l : List Item} (h : l.length = 3) : ∃ a b c, l = [a, b, c] := by
  match l, h with
  | [a, b, c], _ => exact ⟨a, b, c, rfl⟩
theorem list5 {l : List Item} (h : l.length = 5) : ∃ a b c d e, l = [a, b, c, d, e] := by
  match l, h with
  | [a, b, c, d, e], _ => exact ⟨a, b, c, d, e, rfl⟩
theorem list2 {l : List Item} (h : l.length = 2) : ∃ a b, l = [a, b] := by
  match l, h with
  | [a, b], _ => exact ⟨a, b, rfl⟩
theorem tsB_flat (x : Item) : tsB x = !(!(txsB x.list) && x.isList) ∧ (x.isList = true → tsL x = txsL x.list) := by
  unfold tsB tsL opnL opnB
  cases x.isList <;> simp
theorem setCells_cons (W : World) (q o : Nat) (v : Value) (r : List Value) : W.setCells q o (v :: r) = (World.setCell W (Addr.mk q o none) v).setCells q (o + 1) r := rfl
theorem setCells_nil (W : World) (q o : Nat) : W.setCells q o [] = W := rfl
theorem nine_sets (W : World) (q : Nat) (v0 v1 v2 v3 v4 v5 v6 v7 v8 : Value) : (World.setCell (World.setCell (World.setCell (World.setCell (World.setCell (World.setCell (World.setCell (World.setCell (World.setCell W (Addr.mk q 0 none) v0) (Addr.mk q 1 none) v1) (Addr.mk q 2 none) v2) (Addr.mk q 3 none) v3) (Addr.mk q 4 none) v4) (Addr.mk q 5 none) v5) (Addr.mk q 6 none) v6) (Addr.mk q 7 none) v7) (Addr.mk q 8 none) v8) = W.setCells q 0 [v0, v1, v2, v3, v4, v5, v6, v7, v8] := by
  rw [setCells_cons, setCells_cons, setCells_cons, setCells_cons, setCells_cons, setCells_cons, setCells_cons, setCells_cons, setCells_cons, setCells_nil]
theorem nine_other {W : World} {b j q : Nat} {u : Value} (h : W.cell? ⟨b, j, none⟩ = some u) (hne : b ≠ q) (v0 v1 v2 v3 v4 v5 v6 v7 v8 : Value) : World.cell? (World.setCell (World.setCell (World.setCell (World.setCell (World.setCell (World.setCell (World.setCell (World.setCell (World.setCell W (Addr.mk q 0 none) v0) (Addr.mk q 1 none) v1) (Addr.mk q 2 none) v2) (Addr.mk q 3 none) v3) (Addr.mk q 4 none) v4) (Addr.mk q 5 none) v5) (Addr.mk q 6 none) v6) (Addr.mk q 7 none) v7) (Addr.mk q 8 none) v8) ⟨b, j, none⟩ = some u := by
  rw [nine_sets]
  exact (World.cell?_of_block (a := ⟨b, j, none⟩) ((Upon.sets q [v0, v1, v2, v3, v4, v5, v6, v7, v8] 0 W).block b hne)).trans h
theorem nine_drew {W : World} {b j q : Nat} {u : Value} (h : (World.drew W).cell? ⟨b, j, none⟩ = some u) (hne : b ≠ q) (v0 v1 v2 v3 v4 v5 v6 v7 v8 : Value) : World.cell? (World.drew (World.setCell (World.setCell (World.setCell (World.setCell (World.setCell (World.setCell (World.setCell (World.setCell (World.setCell W (Addr.mk q 0 none) v0) (Addr.mk q 1 none) v1) (Addr.mk q 2 none) v2) (Addr.mk q 3 none) v3) (Addr.mk q 4 none) v4) (Addr.mk q 5 none) v5) (Addr.mk q 6 none) v6) (Addr.mk q 7 none) v7) (Addr.mk q 8 none) v8)) ⟨b, j, none⟩ = some u :=
  (cell_drew_own _ _).trans (nine_other (W := W) ((cell_drew_own W _).symm.trans h) hne v0 v1 v2 v3 v4 v5 v6 v7 v8)
theorem HasCells.drew {W : World} {q : Nat} {cs : List Value} {t : TypeId} (h : HasCells W q cs t) : HasCells W.drew q cs t := h
theorem sets_below {n q : Nat} (h : n ≤ q) (us : List Value) (o : Nat) (W : World) : Below n W (W.setCells q o us) := by
  have hu := Upon.sets q us o W
  exact ⟨hu.os, hu.tape, hu.output, Nat.le_of_eq hu.size.symm, fun j hj => hu.block j (by omega)⟩
set_option maxRecDepth 100000 in
set_option maxHeartbeats 12800000 in
theorem lightOf_any (x : Item) (p : Option Addr) (c : Nat) (w : World) (hr : Reads w w.heap.size (.slice p x.list.length c) x.list) (hz : x.size ≤ 1099511627775) : Calls Tryd.prog 52 #[.agg #[.bool x.isList, .string (txtB x), .slice p x.list.length c]] w fun e w' =>
    ((lightB x = true ∧ e = .returned (.tuple #[.agg lightZ.toArray, .bool false])) ∨
     (lightB x = false ∧ ∃ p c, e = .returned (.tuple #[.agg (lightC x (.slice p (tsL (li x 2)).length c)).toArray, .bool true]) ∧ Strs w' (.slice p (tsL (li x 2)).length c) (tsL (li x 2)) ∧ ∀ j, (Value.slice p (tsL (li x 2)).length c).ownBlock = some j → w.heap.size ≤ j)) ∧ Below w.heap.size w w' := by
  have G0 := fun W => many_any x.isList (txtB x) p x.list.length c 3 W
  obtain ⟨m0, hm0⟩ : ∃ v, (x.isList && ((x.list.length : Int) == 3)) = v := ⟨_, rfl⟩
  rw [hm0] at G0
  have H0 := Lib.hid G0
  have HM0 := Lib.hid hm0
  have ho0 : opnB x 3 = !m0 := by rw [← hm0]; exact opnB_many x 3
  have HO0 := Lib.hid ho0
  obtain ⟨w0, hw0⟩ : ∃ W, (w.alloc (.cells #[.bool x.isList, .string (txtB x), .slice p x.list.length c] 80)).alloc (.cells lightZ.toArray 37) = W := ⟨_, rfl⟩
  have hb0 : Below w.heap.size w w0 := by rw [← hw0]; exact ((Below.refl _ _).alloc (Nat.le_refl _) _).alloc (by simp) _
  have HP := Lib.hid (show ∀ W, Below w0.heap.size w0 W → HasCells W (w.heap.size + 1) lightZ 37 from fun W hb => by
    have h1 : HasCells w0 (w.heap.size + 1) lightZ 37 := by
      rw [← hw0]
      have := HasCells.new (w.alloc (.cells #[.bool x.isList, .string (txtB x), .slice p x.list.length c] 80)) lightZ 37
      rwa [World.size_alloc] at this
    exact (hb.block _ h1.lt).trans h1)
  have HX := Lib.hid (show ∀ W, Below w0.heap.size w0 W → W.cell? ⟨w.heap.size, 0, none⟩ = some (.bool x.isList) ∧ W.cell? ⟨w.heap.size, 1, none⟩ = some (.string (txtB x)) ∧ W.cell? ⟨w.heap.size, 2, none⟩ = some (.slice p x.list.length c) from fun W hb => by
    refine cells_three (t := 80) ?_
    rw [← hw0] at hb
    exact ((Below.refl _ _).alloc (Nat.le_refl _) _).trans (hb.mono (by simp)))
  have HB0 := Lib.hid hb0
  have HR := Lib.hid hr
  have HW0 := Lib.hid hw0
  have HZ := Lib.hid hz
  clear G0 hr hz hb0 hw0 hm0 ho0
  cases m0 with
  | false =>
    obtain ⟨q, hq⟩ : ∃ q, x.list.length = q := ⟨_, rfl⟩
    obtain ⟨ib, hib⟩ : ∃ v, x.isList = v := ⟨_, rfl⟩
    obtain ⟨tx, htx⟩ : ∃ v, txtB x = v := ⟨_, rfl⟩
    rw [hq, hib, htx] at H0 HX HW0 ⊢
    have hbad : lightB x = true := by unfold lightB lightB0; rw [HO0.out]; rfl
    have HBad := Lib.hid hbad
    clear hq hib htx hbad
    go_enter Tryd.func52, Tryd.ntmps52
    go_wp2_with fail
    rw [show (w.alloc (.cells #[.bool ib, .string tx, .slice p q c] 80)).alloc (.cells #[.int .u64 0, .int .u64 0, .string ⟨#[]⟩, .string ⟨#[]⟩, .string ⟨#[]⟩, .string ⟨#[]⟩, .string ⟨#[]⟩, .int .u64 0, .slice none 0 0] 37) = w0 from HW0.out]
    refine (H0.out w0).mono ?_
    rintro e w1 ⟨rfl, b1⟩
    go_wp2_with ((with_reducible refine store_gate 37 ?_); refine wpList_store_mid rfl 37 _ _ rfl (w.heap.size + 1) 0 lightZ.toArray rfl rfl ((HP.out w1 b1).there 0 9 (by decide)) infoLight lightZ_one ?_)
    refine bodyPost_ret (results_cells2 rfl _ _ (w.heap.size + 1) lightZ _ rfl (((HP.out w1 b1).sets lightZ 0).range) Tryd.underlying37 rfl infoLight) rfl ?_
    exact ⟨.inl ⟨HBad.out, rfl⟩, HB0.out.trans ((b1.mono HB0.out.size).trans (sets_below (by omega) _ _ _))⟩
  | true =>
    obtain ⟨hil, hl3⟩ := many_list (m := 3) HM0.out
    obtain ⟨i0, i1, i2, hxs⟩ := list3 hl3
    obtain ⟨gx, ox, rfl, hrow⟩ := Reads.row (HR.out) (by rw [hxs]; exact Nat.succ_pos _)
    obtain ⟨pi0, ci0, hf, hri0⟩ := hrow 0 i0 (by rw [hxs]; rfl)
    have Fi0 := Lib.hid (show ItAt w gx (ox) i0 (.slice pi0 i0.list.length ci0) from fun W hb => by have := hf W hb; simpa [Nat.add_assoc] using this)
    have Ri0 := Lib.hid hri0
    clear hf hri0
    obtain ⟨pi1, ci1, hf, hri1⟩ := hrow 1 i1 (by rw [hxs]; rfl)
    have Fi1 := Lib.hid (show ItAt w gx (ox + 3) i1 (.slice pi1 i1.list.length ci1) from fun W hb => by have := hf W hb; simpa [Nat.add_assoc] using this)
    have Ri1 := Lib.hid hri1
    clear hf hri1
    obtain ⟨pi2, ci2, hf, hri2⟩ := hrow 2 i2 (by rw [hxs]; rfl)
    have Fi2 := Lib.hid (show ItAt w gx (ox + 6) i2 (.slice pi2 i2.list.length ci2) from fun W hb => by have := hf W hb; simpa [Nat.add_assoc] using this)
    have Ri2 := Lib.hid hri2
    clear hf hri2
    clear hrow
    have hop : opnL x 3 = [i0, i1, i2] := by rw [opnL_good (by rw [HO0.out]; rfl), hxs]
    have l0 : li x 0 = i0 := by unfold li; rw [hop]; rfl
    have l1 : li x 1 = i1 := by unfold li; rw [hop]; rfl
    have l2 : li x 2 = i2 := by unfold li; rw [hop]; rfl
    have hzs : i0.size ≤ 1099511627775 ∧ i1.size ≤ 1099511627775 ∧ i2.size ≤ 1099511627775 := by
      have h1 := HZ.out
      rw [Item.size_eq, hxs] at h1
      simp only [sizeAll] at h1
      omega
    have HZS := Lib.hid hzs
    have hbd : lightB x = (numB (lh x 0) || numB (lh x 1) || (lh x 2).isList || (lh x 3).isList || (lh x 4).isList || (ly x 0).isList || (ly x 1).isList || numB (ly x 2) || (opnB i0 5 || opnB i1 3 || tsB i2)) := by
      unfold lightB lightB0
      rw [HO0.out, l0, l1, l2]
      simp
    have L0 := Lib.hid l0
    have L1 := Lib.hid l1
    have L2 := Lib.hid l2
    have HBD := Lib.hid hbd
    rw [l2]
    have G1 := fun W => many_any i0.isList (txtB i0) pi0 i0.list.length ci0 5 W
    obtain ⟨m1, hm1⟩ : ∃ v, (i0.isList && ((i0.list.length : Int) == 5)) = v := ⟨_, rfl⟩
    rw [hm1] at G1
    have H1 := Lib.hid G1
    have HM1 := Lib.hid hm1
    have G2 := fun W => many_any i1.isList (txtB i1) pi1 i1.list.length ci1 3 W
    obtain ⟨m2, hm2⟩ : ∃ v, (i1.isList && ((i1.list.length : Int) == 3)) = v := ⟨_, rfl⟩
    rw [hm2] at G2
    have H2 := Lib.hid G2
    have HM2 := Lib.hid hm2
    have G3 := fun W (hb : Below w.heap.size w W) => flat_any i0 pi0 ci0 W (Ri0.out.below hb hb.size) (by have := HZS.out.1; have := i0.len_size; omega)
    obtain ⟨m3, hm3⟩ : ∃ v, (!(txsB i0.list) && i0.isList) = v := ⟨_, rfl⟩
    rw [hm3] at G3
    have H3 := Lib.hid G3
    have HM3 := Lib.hid hm3
    have G4 := fun W (hb : Below w.heap.size w W) => flat_any i1 pi1 ci1 W (Ri1.out.below hb hb.size) (by have := HZS.out.2.1; have := i1.len_size; omega)
    obtain ⟨m4, hm4⟩ : ∃ v, (!(txsB i1.list) && i1.isList) = v := ⟨_, rfl⟩
    rw [hm4] at G4
    have H4 := Lib.hid G4
    have HM4 := Lib.hid hm4
    have H5 := Lib.hid (fun W (hb : Below w.heap.size w W) => textsOf_any i2 pi2 ci2 W (Ri2.out.below hb hb.size) (by have := HZS.out.2.2; have := i2.len_size; omega))
    have HO1 := Lib.hid (show opnB i0 5 = !m1 by rw [← hm1]; exact opnB_many i0 5)
    have HO2 := Lib.hid (show opnB i1 3 = !m2 by rw [← hm2]; exact opnB_many i1 3)
    clear G1 G2 G3 G4 hm1 hm2 hm3 hm4 hbd l0 l1 l2 hop hzs
    rw [hl3] at H0 HX HW0 ⊢
    have hilw := hil
    rw [hil] at H0 HX HW0 ⊢
    clear hl3 hil hilw
    obtain ⟨tx, htx⟩ : ∃ v, txtB x = v := ⟨_, rfl⟩
    rw [htx] at H0 HX HW0 ⊢
    clear htx
    go_enter Tryd.func52, Tryd.ntmps52
    go_wp2_with fail
    rw [show (w.alloc (.cells #[.bool true, .string tx, .slice (some ⟨gx, ox, none⟩) 3 c] 80)).alloc (.cells #[.int .u64 0, .int .u64 0, .string ⟨#[]⟩, .string ⟨#[]⟩, .string ⟨#[]⟩, .string ⟨#[]⟩, .string ⟨#[]⟩, .int .u64 0, .slice none 0 0] 37) = w0 from HW0.out]
    refine (H0.out w0).mono ?_
    rintro e w1 ⟨rfl, b1⟩
    have n1 : Below w.heap.size w w1 := HB0.out.trans (b1.mono HB0.out.size)
    have n1 : Below w.heap.size w w1 := HB0.out.trans (b1.mono HB0.out.size)
    obtain ⟨x0, x1, x2⟩ := HX.out w1 b1
    obtain ⟨a00, a01, a02⟩ := Fi0.out w1 n1
    go_wp2_with fail
    refine (H1.out w1).mono ?_
    rintro e w2 ⟨rfl, hb2⟩
    have b2 := b1.trans (hb2.mono b1.size)
    clear hb2
    clear x0 x1 x2 a00 a01 a02
    cases m1 with
    | false =>
      have hbad : lightB x = true := by rw [HBD.out, HO1.out]; simp
      have HBad := Lib.hid hbad
      clear hbad
      obtain ⟨x0, x1, x2⟩ := HX.out w2 b2
      go_wp2_with ((with_reducible refine store_gate 37 ?_); refine wpList_store_mid rfl 37 _ _ rfl (w.heap.size + 1) 0 lightZ.toArray rfl rfl ((HP.out w2 b2).there 0 9 (by decide)) infoLight lightZ_one ?_)
      refine bodyPost_ret (results_cells2 rfl _ _ (w.heap.size + 1) lightZ _ rfl (((HP.out w2 b2).sets lightZ 0).range) Tryd.underlying37 rfl infoLight) rfl ?_
      exact ⟨.inl ⟨HBad.out, rfl⟩, HB0.out.trans ((b2.mono HB0.out.size).trans (sets_below (by omega) _ _ _))⟩
    | true =>
      have n2 : Below w.heap.size w w2 := HB0.out.trans (b2.mono HB0.out.size)
      obtain ⟨x0, x1, x2⟩ := HX.out w2 b2
      obtain ⟨a00, a01, a02⟩ := Fi1.out w2 n2
      go_wp2_with fail
      refine (H2.out w2).mono ?_
      rintro e w3 ⟨rfl, hb3⟩
      have b3 := b2.trans (hb3.mono b2.size)
      clear hb3
      clear x0 x1 x2 a00 a01 a02
      cases m2 with
      | false =>
        have hbad : lightB x = true := by rw [HBD.out, HO2.out]; simp
        have HBad := Lib.hid hbad
        clear hbad
        obtain ⟨x0, x1, x2⟩ := HX.out w3 b3
        go_wp2_with ((with_reducible refine store_gate 37 ?_); refine wpList_store_mid rfl 37 _ _ rfl (w.heap.size + 1) 0 lightZ.toArray rfl rfl ((HP.out w3 b3).there 0 9 (by decide)) infoLight lightZ_one ?_)
        refine bodyPost_ret (results_cells2 rfl _ _ (w.heap.size + 1) lightZ _ rfl (((HP.out w3 b3).sets lightZ 0).range) Tryd.underlying37 rfl infoLight) rfl ?_
        exact ⟨.inl ⟨HBad.out, rfl⟩, HB0.out.trans ((b3.mono HB0.out.size).trans (sets_below (by omega) _ _ _))⟩
      | true =>
        obtain ⟨hi0, hl0⟩ := many_list (m := 5) HM1.out
        obtain ⟨h0, h1, h2, h3, h4, hh⟩ := list5 hl0
        obtain ⟨hi1, hl1⟩ := many_list (m := 3) HM2.out
        obtain ⟨y0, y1, y2, hy⟩ := list3 hl1
        obtain ⟨gh, oh, rfl, hrow⟩ := Reads.row (Ri0.out) (by rw [hh]; exact Nat.succ_pos _)
        obtain ⟨ph0, ch0, hf, hrh0⟩ := hrow 0 h0 (by rw [hh]; rfl)
        have Fh0 := Lib.hid (show ItAt w gh (oh) h0 (.slice ph0 h0.list.length ch0) from fun W hb => by have := hf W hb; simpa [Nat.add_assoc] using this)
        have Rh0 := Lib.hid hrh0
        clear hf hrh0
        obtain ⟨ph1, ch1, hf, hrh1⟩ := hrow 1 h1 (by rw [hh]; rfl)
        have Fh1 := Lib.hid (show ItAt w gh (oh + 3) h1 (.slice ph1 h1.list.length ch1) from fun W hb => by have := hf W hb; simpa [Nat.add_assoc] using this)
        have Rh1 := Lib.hid hrh1
        clear hf hrh1
        obtain ⟨ph2, ch2, hf, hrh2⟩ := hrow 2 h2 (by rw [hh]; rfl)
        have Fh2 := Lib.hid (show ItAt w gh (oh + 6) h2 (.slice ph2 h2.list.length ch2) from fun W hb => by have := hf W hb; simpa [Nat.add_assoc] using this)
        have Rh2 := Lib.hid hrh2
        clear hf hrh2
        obtain ⟨ph3, ch3, hf, hrh3⟩ := hrow 3 h3 (by rw [hh]; rfl)
        have Fh3 := Lib.hid (show ItAt w gh (oh + 9) h3 (.slice ph3 h3.list.length ch3) from fun W hb => by have := hf W hb; simpa [Nat.add_assoc] using this)
        have Rh3 := Lib.hid hrh3
        clear hf hrh3
        obtain ⟨ph4, ch4, hf, hrh4⟩ := hrow 4 h4 (by rw [hh]; rfl)
        have Fh4 := Lib.hid (show ItAt w gh (oh + 12) h4 (.slice ph4 h4.list.length ch4) from fun W hb => by have := hf W hb; simpa [Nat.add_assoc] using this)
        have Rh4 := Lib.hid hrh4
        clear hf hrh4
        clear hrow
        obtain ⟨gy, oy, rfl, hrow⟩ := Reads.row (Ri1.out) (by rw [hy]; exact Nat.succ_pos _)
        obtain ⟨py0, cy0, hf, hry0⟩ := hrow 0 y0 (by rw [hy]; rfl)
        have Fy0 := Lib.hid (show ItAt w gy (oy) y0 (.slice py0 y0.list.length cy0) from fun W hb => by have := hf W hb; simpa [Nat.add_assoc] using this)
        have Ry0 := Lib.hid hry0
        clear hf hry0
        obtain ⟨py1, cy1, hf, hry1⟩ := hrow 1 y1 (by rw [hy]; rfl)
        have Fy1 := Lib.hid (show ItAt w gy (oy + 3) y1 (.slice py1 y1.list.length cy1) from fun W hb => by have := hf W hb; simpa [Nat.add_assoc] using this)
        have Ry1 := Lib.hid hry1
        clear hf hry1
        obtain ⟨py2, cy2, hf, hry2⟩ := hrow 2 y2 (by rw [hy]; rfl)
        have Fy2 := Lib.hid (show ItAt w gy (oy + 6) y2 (.slice py2 y2.list.length cy2) from fun W hb => by have := hf W hb; simpa [Nat.add_assoc] using this)
        have Ry2 := Lib.hid hry2
        clear hf hry2
        clear hrow
        have hoh : opnL i0 5 = [h0, h1, h2, h3, h4] := by rw [opnL_good (by rw [HO1.out]; rfl), hh]
        have hoy : opnL i1 3 = [y0, y1, y2] := by rw [opnL_good (by rw [HO2.out]; rfl), hy]
        have k0 : lh x 0 = h0 ∧ lh x 1 = h1 ∧ lh x 2 = h2 ∧ lh x 3 = h3 ∧ lh x 4 = h4 := by unfold lh; rw [L0.out, hoh]; exact ⟨rfl, rfl, rfl, rfl, rfl⟩
        have k1 : ly x 0 = y0 ∧ ly x 1 = y1 ∧ ly x 2 = y2 := by unfold ly; rw [L1.out, hoy]; exact ⟨rfl, rfl, rfl⟩
        have hbd2 : lightB x = (numB h0 || numB h1 || h2.isList || h3.isList || h4.isList || y0.isList || y1.isList || numB y2 || tsB i2) := by
          rw [HBD.out, k0.1, k0.2.1, k0.2.2.1, k0.2.2.2.1, k0.2.2.2.2, k1.1, k1.2.1, k1.2.2, HO1.out, HO2.out]
          simp
        have HC := Lib.hid (show ∀ V, lightC x V = [.int .u64 (numV h0), .int .u64 (numV h1), .string (txtB h2), .string (txtB h3), .string (txtB h4), .string (txtB y0), .string (txtB y1), .int .u64 (numV y2), V] from fun V => by
          unfold lightC
          rw [k0.1, k0.2.1, k0.2.2.1, k0.2.2.2.1, k0.2.2.2.2, k1.1, k1.2.1, k1.2.2])
        have hf0 : m3 = false → lightB x = true := fun h => by
          rw [h, hi0, hh] at HM3
          have h5 := HM3.out
          rw [hbd2]
          simp only [txsB, List.any_cons, List.any_nil, Bool.or_false, Bool.and_true, Bool.not_eq_false'] at h5
          simp only [numB]
          revert h5
          cases h0.isList <;> cases h1.isList <;> cases h2.isList <;> cases h3.isList <;> cases h4.isList <;> simp
        have hf1 : m4 = false → lightB x = true := fun h => by
          rw [h, hi1, hy] at HM4
          have h5 := HM4.out
          rw [hbd2]
          simp only [txsB, List.any_cons, List.any_nil, Bool.or_false, Bool.and_true, Bool.not_eq_false'] at h5
          simp only [numB]
          revert h5
          cases y0.isList <;> cases y1.isList <;> cases y2.isList <;> simp
        have hg0 : m3 = true → h2.isList = false ∧ h3.isList = false ∧ h4.isList = false := fun h => by
          rw [h, hi0, hh] at HM3
          have h5 := HM3.out
          simp only [txsB, List.any_cons, List.any_nil, Bool.or_false, Bool.and_true] at h5
          revert h5
          cases h0.isList <;> cases h1.isList <;> cases h2.isList <;> cases h3.isList <;> cases h4.isList <;> simp
        have hg1 : m4 = true → y0.isList = false ∧ y1.isList = false := fun h => by
          rw [h, hi1, hy] at HM4
          have h5 := HM4.out
          simp only [txsB, List.any_cons, List.any_nil, Bool.or_false, Bool.and_true] at h5
          revert h5
          cases y0.isList <;> cases y1.isList <;> cases y2.isList <;> simp
        have HG0 := Lib.hid hg0
        have HG1 := Lib.hid hg1
        have hgh : gh < w.heap.size := World.block_lt_of_cell? w ⟨gh, oh, none⟩ (Fh0.out w (Below.refl _ _)).1
        have hgy : gy < w.heap.size := World.block_lt_of_cell? w ⟨gy, oy, none⟩ (Fy0.out w (Below.refl _ _)).1
        have HGH := Lib.hid hgh
        have HGY := Lib.hid hgy
        clear hg0 hg1 hgh hgy
        have HF0 := Lib.hid hf0
        have HF1 := Lib.hid hf1
        have HBD2 := Lib.hid hbd2
        have HT := Lib.hid (tsB_flat i2)
        rw [hl0] at Fi0 H3
        rw [hl1] at Fi1 H4
        rw [hi0] at H3
        rw [hi1] at H4
        have hI0 := hi0
        have hI1 := hi1
        clear hoh hoy k0 k1 hbd2 hf0 hf1 hl0 hl1 hh hy
        have n3 : Below w.heap.size w w3 := HB0.out.trans (b3.mono HB0.out.size)
        obtain ⟨x0, x1, x2⟩ := HX.out w3 b3
        obtain ⟨a00, a01, a02⟩ := Fi0.out w3 n3
        rw [hi0] at a00
        clear hI0 hI1 hi0
        go_wp2_with fail
        refine (H3.out w3 n3).mono ?_
        rintro e w4 ⟨rfl, hb4⟩
        have b4 := b3.trans (hb4.mono b3.size)
        clear hb4
        clear x0 x1 x2 a00 a01 a02
        cases m3 with
        | false =>
          have HBad := Lib.hid (HF0.out rfl)
          obtain ⟨x0, x1, x2⟩ := HX.out w4 b4
          clear hi1
          go_wp2_with ((with_reducible refine store_gate 37 ?_); refine wpList_store_mid rfl 37 _ _ rfl (w.heap.size + 1) 0 lightZ.toArray rfl rfl ((HP.out w4 b4).there 0 9 (by decide)) infoLight lightZ_one ?_)
          refine bodyPost_ret (results_cells2 rfl _ _ (w.heap.size + 1) lightZ _ rfl (((HP.out w4 b4).sets lightZ 0).range) Tryd.underlying37 rfl infoLight) rfl ?_
          exact ⟨.inl ⟨HBad.out, rfl⟩, HB0.out.trans ((b4.mono HB0.out.size).trans (sets_below (by omega) _ _ _))⟩
        | true =>
          have n4 : Below w.heap.size w w4 := HB0.out.trans (b4.mono HB0.out.size)
          obtain ⟨x0, x1, x2⟩ := HX.out w4 b4
          obtain ⟨a00, a01, a02⟩ := Fi1.out w4 n4
          rw [hi1] at a00
          clear hi1
          go_wp2_with fail
          refine (H4.out w4 n4).mono ?_
          rintro e w5 ⟨rfl, hb5⟩
          have b5 := b4.trans (hb5.mono b4.size)
          clear hb5
          clear x0 x1 x2 a00 a01 a02
          cases m4 with
          | false =>
            have HBad := Lib.hid (HF1.out rfl)
            obtain ⟨x0, x1, x2⟩ := HX.out w5 b5
            go_wp2_with ((with_reducible refine store_gate 37 ?_); refine wpList_store_mid rfl 37 _ _ rfl (w.heap.size + 1) 0 lightZ.toArray rfl rfl ((HP.out w5 b5).there 0 9 (by decide)) infoLight lightZ_one ?_)
            refine bodyPost_ret (results_cells2 rfl _ _ (w.heap.size + 1) lightZ _ rfl (((HP.out w5 b5).sets lightZ 0).range) Tryd.underlying37 rfl infoLight) rfl ?_
            exact ⟨.inl ⟨HBad.out, rfl⟩, HB0.out.trans ((b5.mono HB0.out.size).trans (sets_below (by omega) _ _ _))⟩
          | true =>
            have G := fun W => numberOf_any h0 ph0 h0.list.length ch0 W
            obtain ⟨k1, hk⟩ : ∃ v, (!(numB h0)) = v := ⟨_, rfl⟩
            rw [hk] at G
            have N1 := Lib.hid G
            have HK1 := Lib.hid hk
            clear G hk
            have G := fun W => numberOf_any h1 ph1 h1.list.length ch1 W
            obtain ⟨k2, hk⟩ : ∃ v, (!(numB h1)) = v := ⟨_, rfl⟩
            rw [hk] at G
            have N2 := Lib.hid G
            have HK2 := Lib.hid hk
            clear G hk
            have G := fun W => numberOf_any y2 py2 y2.list.length cy2 W
            obtain ⟨k3, hk⟩ : ∃ v, (!(numB y2)) = v := ⟨_, rfl⟩
            rw [hk] at G
            have N3 := Lib.hid G
            have HK3 := Lib.hid hk
            clear G hk
            have n5 : Below w.heap.size w w5 := HB0.out.trans (b5.mono HB0.out.size)
            obtain ⟨x0, x1, x2⟩ := HX.out w5 b5
            obtain ⟨a00, a01, a02⟩ := Fi0.out w5 n5
            obtain ⟨a10, a11, a12⟩ := Fi1.out w5 n5
            obtain ⟨a20, a21, a22⟩ := Fh0.out w5 n5
            go_wp2_with fail
            refine (N1.out w5).mono ?_
            rintro e w6 ⟨rfl, hb6⟩
            have b6 := b5.trans (hb6.mono b5.size)
            clear hb6
            clear x0 x1 x2 a00 a01 a02 a10 a11 a12 a20 a21 a22
            have n6 : Below w.heap.size w w6 := HB0.out.trans (b6.mono HB0.out.size)
            obtain ⟨x0, x1, x2⟩ := HX.out w6 b6
            obtain ⟨a00, a01, a02⟩ := Fh1.out w6 n6
            go_wp2_with fail
            refine (N2.out w6).mono ?_
            rintro e w7 ⟨rfl, hb7⟩
            have b7 := b6.trans (hb7.mono b6.size)
            clear hb7
            clear x0 x1 x2 a00 a01 a02
            have n7 : Below w.heap.size w w7 := HB0.out.trans (b7.mono HB0.out.size)
            obtain ⟨x0, x1, x2⟩ := HX.out w7 b7
            obtain ⟨a00, a01, a02⟩ := Fy2.out w7 n7
            go_wp2_with fail
            refine (N3.out w7).mono ?_
            rintro e w8 ⟨rfl, hb8⟩
            have b8 := b7.trans (hb8.mono b7.size)
            clear hb8
            clear x0 x1 x2 a00 a01 a02
            have n8 : Below w.heap.size w w8 := HB0.out.trans (b8.mono HB0.out.size)
            obtain ⟨x0, x1, x2⟩ := HX.out w8 b8
            obtain ⟨a00, a01, a02⟩ := Fi2.out w8 n8
            go_wp2_with fail
            refine (H5.out w8 n8).mono ?_
            rintro e w9 ⟨(⟨ht, rfl⟩ | ⟨ht, pv, cv, rfl, hs, hov⟩), hb9⟩
            · skip
              have hw8 : w.heap.size + 2 ≤ w8.heap.size := by
                have h1 := b8.size
                have h2 : w0.heap.size = w.heap.size + 2 := by
                  rw [← HW0.out]
                  simp
                omega
              have HW8 := Lib.hid hw8
              clear hw8
              have b9 := b8.trans (hb9.mono b8.size)
              have HTX := Lib.hid ht
              clear hb9 ht
              clear x0 x1 x2 a00 a01 a02
              obtain ⟨x0, x1, x2⟩ := HX.out w9 b9
              clear n1 n2 n3 n4 n5 n6 n7 n8
              cases k1 with
              | false =>
                have hbad : lightB x = true := by
                  have h := HK1.out
                  rw [HBD2.out, show numB h0 = true by simpa using h]
                  simp
                have HBad := Lib.hid hbad
                clear hbad
                go_wp2_with ((with_reducible refine store_gate 37 ?_); refine wpList_store_mid rfl 37 _ _ rfl (w.heap.size + 1) 0 lightZ.toArray rfl rfl ((HP.out w9 b9).there 0 9 (by decide)) infoLight lightZ_one ?_)
                refine bodyPost_ret (results_cells2 rfl _ _ (w.heap.size + 1) lightZ _ rfl (((HP.out w9 b9).sets lightZ 0).range) Tryd.underlying37 rfl infoLight) rfl ?_
                exact ⟨.inl ⟨HBad.out, rfl⟩, HB0.out.trans ((b9.mono HB0.out.size).trans (sets_below (by omega) _ _ _))⟩
              | true =>
                cases k2 with
                | false =>
                  have hbad : lightB x = true := by
                    have h := HK2.out
                    rw [HBD2.out, show numB h1 = true by simpa using h]
                    simp
                  have HBad := Lib.hid hbad
                  clear hbad
                  go_wp2_with ((with_reducible refine store_gate 37 ?_); refine wpList_store_mid rfl 37 _ _ rfl (w.heap.size + 1) 0 lightZ.toArray rfl rfl ((HP.out w9 b9).there 0 9 (by decide)) infoLight lightZ_one ?_)
                  refine bodyPost_ret (results_cells2 rfl _ _ (w.heap.size + 1) lightZ _ rfl (((HP.out w9 b9).sets lightZ 0).range) Tryd.underlying37 rfl infoLight) rfl ?_
                  exact ⟨.inl ⟨HBad.out, rfl⟩, HB0.out.trans ((b9.mono HB0.out.size).trans (sets_below (by omega) _ _ _))⟩
                | true =>
                  cases k3 with
                  | false =>
                    have hbad : lightB x = true := by
                      have h := HK3.out
                      rw [HBD2.out, show numB y2 = true by simpa using h]
                      simp
                    have HBad := Lib.hid hbad
                    clear hbad
                    go_wp2_with ((with_reducible refine store_gate 37 ?_); refine wpList_store_mid rfl 37 _ _ rfl (w.heap.size + 1) 0 lightZ.toArray rfl rfl ((HP.out w9 b9).there 0 9 (by decide)) infoLight lightZ_one ?_)
                    refine bodyPost_ret (results_cells2 rfl _ _ (w.heap.size + 1) lightZ _ rfl (((HP.out w9 b9).sets lightZ 0).range) Tryd.underlying37 rfl infoLight) rfl ?_
                    exact ⟨.inl ⟨HBad.out, rfl⟩, HB0.out.trans ((b9.mono HB0.out.size).trans (sets_below (by omega) _ _ _))⟩
                  | true =>
                    have hbad : lightB x = true := by
                      rw [HBD2.out, HT.out.1, HTX.out]
                      simp
                    have HBad := Lib.hid hbad
                    clear hbad
                    go_wp2_with ((with_reducible refine store_gate 37 ?_); refine wpList_store_mid rfl 37 _ _ rfl (w.heap.size + 1) 0 lightZ.toArray rfl rfl ((HP.out w9 b9).there 0 9 (by decide)) infoLight lightZ_one ?_)
                    refine bodyPost_ret (results_cells2 rfl _ _ (w.heap.size + 1) lightZ _ rfl (((HP.out w9 b9).sets lightZ 0).range) Tryd.underlying37 rfl infoLight) rfl ?_
                    exact ⟨.inl ⟨HBad.out, rfl⟩, HB0.out.trans ((b9.mono HB0.out.size).trans (sets_below (by omega) _ _ _))⟩
            · skip
              have hw8 : w.heap.size + 2 ≤ w8.heap.size := by
                have h1 := b8.size
                have h2 : w0.heap.size = w.heap.size + 2 := by
                  rw [← HW0.out]
                  simp
                omega
              have HW8 := Lib.hid hw8
              clear hw8
              have b9 := b8.trans (hb9.mono b8.size)
              have HTX := Lib.hid ht
              clear hb9 ht
              clear x0 x1 x2 a00 a01 a02
              have HS := Lib.hid hs
              have HOV := Lib.hid hov
              clear hs hov
              obtain ⟨dd, hdd⟩ : ∃ v, i2.isList = v := ⟨_, rfl⟩
              rw [hdd]
              have HDD := Lib.hid hdd
              clear hdd
              obtain ⟨x0, x1, x2⟩ := HX.out w9 b9
              clear n1 n2 n3 n4 n5 n6 n7 n8
              cases k1 with
              | false =>
                have hbad : lightB x = true := by
                  have h := HK1.out
                  rw [HBD2.out, show numB h0 = true by simpa using h]
                  simp
                have HBad := Lib.hid hbad
                clear hbad
                go_wp2_with ((with_reducible refine store_gate 37 ?_); refine wpList_store_mid rfl 37 _ _ rfl (w.heap.size + 1) 0 lightZ.toArray rfl rfl ((HP.out w9 b9).there 0 9 (by decide)) infoLight lightZ_one ?_)
                refine bodyPost_ret (results_cells2 rfl _ _ (w.heap.size + 1) lightZ _ rfl (((HP.out w9 b9).sets lightZ 0).range) Tryd.underlying37 rfl infoLight) rfl ?_
                exact ⟨.inl ⟨HBad.out, rfl⟩, HB0.out.trans ((b9.mono HB0.out.size).trans (sets_below (by omega) _ _ _))⟩
              | true =>
                cases k2 with
                | false =>
                  have hbad : lightB x = true := by
                    have h := HK2.out
                    rw [HBD2.out, show numB h1 = true by simpa using h]
                    simp
                  have HBad := Lib.hid hbad
                  clear hbad
                  go_wp2_with ((with_reducible refine store_gate 37 ?_); refine wpList_store_mid rfl 37 _ _ rfl (w.heap.size + 1) 0 lightZ.toArray rfl rfl ((HP.out w9 b9).there 0 9 (by decide)) infoLight lightZ_one ?_)
                  refine bodyPost_ret (results_cells2 rfl _ _ (w.heap.size + 1) lightZ _ rfl (((HP.out w9 b9).sets lightZ 0).range) Tryd.underlying37 rfl infoLight) rfl ?_
                  exact ⟨.inl ⟨HBad.out, rfl⟩, HB0.out.trans ((b9.mono HB0.out.size).trans (sets_below (by omega) _ _ _))⟩
                | true =>
                  cases k3 with
                  | false =>
                    have hbad : lightB x = true := by
                      have h := HK3.out
                      rw [HBD2.out, show numB y2 = true by simpa using h]
                      simp
                    have HBad := Lib.hid hbad
                    clear hbad
                    go_wp2_with ((with_reducible refine store_gate 37 ?_); refine wpList_store_mid rfl 37 _ _ rfl (w.heap.size + 1) 0 lightZ.toArray rfl rfl ((HP.out w9 b9).there 0 9 (by decide)) infoLight lightZ_one ?_)
                    refine bodyPost_ret (results_cells2 rfl _ _ (w.heap.size + 1) lightZ _ rfl (((HP.out w9 b9).sets lightZ 0).range) Tryd.underlying37 rfl infoLight) rfl ?_
                    exact ⟨.inl ⟨HBad.out, rfl⟩, HB0.out.trans ((b9.mono HB0.out.size).trans (sets_below (by omega) _ _ _))⟩
                  | true =>
                    cases dd with
                    | false =>
                      have hbad : lightB x = true := by
                        rw [HBD2.out, HT.out.1, HTX.out, HDD.out]
                        simp
                      have HBad := Lib.hid hbad
                      clear hbad
                      go_wp2_with ((with_reducible refine store_gate 37 ?_); refine wpList_store_mid rfl 37 _ _ rfl (w.heap.size + 1) 0 lightZ.toArray rfl rfl ((HP.out w9 b9).there 0 9 (by decide)) infoLight lightZ_one ?_)
                      refine bodyPost_ret (results_cells2 rfl _ _ (w.heap.size + 1) lightZ _ rfl (((HP.out w9 b9).sets lightZ 0).range) Tryd.underlying37 rfl infoLight) rfl ?_
                      exact ⟨.inl ⟨HBad.out, rfl⟩, HB0.out.trans ((b9.mono HB0.out.size).trans (sets_below (by omega) _ _ _))⟩
                    | true =>
                      have b9d : Below w0.heap.size w0 w9.drew := b9.trans (Below.refl _ _).drew
                      have n9 : Below w.heap.size w w9.drew := HB0.out.trans (b9d.mono HB0.out.size)
                      have hP := HP.out w9 b9
                      have q0 : w9.cell? ⟨w.heap.size + 1, 0, none⟩ = some (.int .u64 0) := hP.cell (j := 0) rfl
                      have f0 : w9.frozen? ⟨w.heap.size + 1, 0, none⟩ = false := hP.frozen 0
                      have q1 : w9.cell? ⟨w.heap.size + 1, 1, none⟩ = some (.int .u64 0) := hP.cell (j := 1) rfl
                      have f1 : w9.frozen? ⟨w.heap.size + 1, 1, none⟩ = false := hP.frozen 1
                      have q2 : w9.cell? ⟨w.heap.size + 1, 2, none⟩ = some (.string ⟨#[]⟩) := hP.cell (j := 2) rfl
                      have f2 : w9.frozen? ⟨w.heap.size + 1, 2, none⟩ = false := hP.frozen 2
                      have q3 : w9.cell? ⟨w.heap.size + 1, 3, none⟩ = some (.string ⟨#[]⟩) := hP.cell (j := 3) rfl
                      have f3 : w9.frozen? ⟨w.heap.size + 1, 3, none⟩ = false := hP.frozen 3
                      have q4 : w9.cell? ⟨w.heap.size + 1, 4, none⟩ = some (.string ⟨#[]⟩) := hP.cell (j := 4) rfl
                      have f4 : w9.frozen? ⟨w.heap.size + 1, 4, none⟩ = false := hP.frozen 4
                      have q5 : w9.cell? ⟨w.heap.size + 1, 5, none⟩ = some (.string ⟨#[]⟩) := hP.cell (j := 5) rfl
                      have f5 : w9.frozen? ⟨w.heap.size + 1, 5, none⟩ = false := hP.frozen 5
                      have q6 : w9.cell? ⟨w.heap.size + 1, 6, none⟩ = some (.string ⟨#[]⟩) := hP.cell (j := 6) rfl
                      have f6 : w9.frozen? ⟨w.heap.size + 1, 6, none⟩ = false := hP.frozen 6
                      have q7 : w9.cell? ⟨w.heap.size + 1, 7, none⟩ = some (.int .u64 0) := hP.cell (j := 7) rfl
                      have f7 : w9.frozen? ⟨w.heap.size + 1, 7, none⟩ = false := hP.frozen 7
                      have q8 : w9.cell? ⟨w.heap.size + 1, 8, none⟩ = some (.slice none 0 0) := hP.cell (j := 8) rfl
                      have f8 : w9.frozen? ⟨w.heap.size + 1, 8, none⟩ = false := hP.frozen 8
                      have hrg : HasCells (w9.setCells (w.heap.size + 1) 0 [.int .u64 (numV h0), .int .u64 (numV h1), .string (txtB h2), .string (txtB h3), .string (txtB h4), .string (txtB y0), .string (txtB y1), .int .u64 (numV y2), .slice pv (txsL i2.list).length cv]) (w.heap.size + 1) [.int .u64 (numV h0), .int .u64 (numV h1), .string (txtB h2), .string (txtB h3), .string (txtB h4), .string (txtB y0), .string (txtB y1), .int .u64 (numV y2), .slice pv (txsL i2.list).length cv] 37 := hP.sets [.int .u64 (numV h0), .int .u64 (numV h1), .string (txtB h2), .string (txtB h3), .string (txtB h4), .string (txtB y0), .string (txtB y1), .int .u64 (numV y2), .slice pv (txsL i2.list).length cv] 0
                      have HRG := Lib.hid hrg
                      clear hrg
                      have B9 := Lib.hid b9
                      have HPD := Lib.hid hP
                      have hS : w9.drew.cell? ⟨gh, oh + 7, none⟩ = some (.string (txtB h2)) ∧ w9.drew.cell? ⟨gh, oh + 10, none⟩ = some (.string (txtB h3)) ∧ w9.drew.cell? ⟨gh, oh + 13, none⟩ = some (.string (txtB h4)) ∧ w9.drew.cell? ⟨gy, oy + 1, none⟩ = some (.string (txtB y0)) ∧ w9.drew.cell? ⟨gy, oy + 4, none⟩ = some (.string (txtB y1)) := ⟨(Fh2.out _ n9).2.1, (Fh3.out _ n9).2.1, (Fh4.out _ n9).2.1, (Fy0.out _ n9).2.1, (Fy1.out _ n9).2.1⟩
                      have HSS := Lib.hid hS
                      clear hS n9 b9d hP x0 x1 x2
                      go_wp2_with fail
                      refine wp_region_held_drew (S := fun W => W.cell? ⟨gh, oh + 7, none⟩ = some (.string (txtB h2)) ∧ W.cell? ⟨gh, oh + 10, none⟩ = some (.string (txtB h3)) ∧ W.cell? ⟨gh, oh + 13, none⟩ = some (.string (txtB h4)) ∧ W.cell? ⟨gy, oy + 1, none⟩ = some (.string (txtB y0)) ∧ W.cell? ⟨gy, oy + 4, none⟩ = some (.string (txtB y1))) (by kernel_rfl) (HSS.out) (fun hHeld => ?_)
                      refine wpAnyH_take (i := 0) (v := ?_) rfl (by kernel_rfl) (by kernel_rfl) (by kernel_rfl) (fun _ _ _ h => h) (.inl ⟨by rfl, ?_⟩) (by assumption) ?_
                      rotate_left 1
                      · intro w0 hSw
                        go_simp <;> with_reducible rfl
                      try simp only [Act.put, List.getElem_toArray, List.getElem_cons_zero, List.setIfInBounds_toArray, List.set_cons_zero, List.set_cons_succ]
                      refine wpAnyH_take (i := 1) (v := ?_) rfl (by kernel_rfl) (by kernel_rfl) (by kernel_rfl) (fun _ _ _ h => h) (.inl ⟨by rfl, ?_⟩) (by assumption) ?_
                      rotate_left 1
                      · intro w0 hSw
                        go_simp <;> with_reducible rfl
                      try simp only [Act.put, List.getElem_toArray, List.getElem_cons_zero, List.getElem_cons_succ, List.setIfInBounds_toArray, List.set_cons_zero, List.set_cons_succ]
                      refine wpAnyH_take (i := 2) (v := ?_) rfl (by kernel_rfl) (by kernel_rfl) (by kernel_rfl) (fun _ _ _ h => h) (.inl ⟨by rfl, ?_⟩) (by assumption) ?_
                      rotate_left 1
                      · intro w0 hSw
                        go_simp <;> with_reducible rfl
                      try simp only [Act.put, List.getElem_toArray, List.getElem_cons_zero, List.getElem_cons_succ, List.setIfInBounds_toArray, List.set_cons_zero, List.set_cons_succ]
                      refine wpAnyH_take (i := 3) (v := ?_) rfl (by kernel_rfl) (by kernel_rfl) (by kernel_rfl) (fun _ _ _ h => h) (.inl ⟨by rfl, ?_⟩) (by assumption) ?_
                      rotate_left 1
                      · intro w0 hSw
                        go_simp <;> with_reducible rfl
                      try simp only [Act.put, List.getElem_toArray, List.getElem_cons_zero, List.getElem_cons_succ, List.setIfInBounds_toArray, List.set_cons_zero, List.set_cons_succ]
                      refine wpAnyH_take (i := 4) (v := ?_) rfl (by kernel_rfl) (by kernel_rfl) (by kernel_rfl) (fun _ _ _ h => h) (.inl ⟨by rfl, ?_⟩) (by assumption) ?_
                      rotate_left 1
                      · intro w0 hSw
                        go_simp <;> with_reducible rfl
                      try simp only [Act.put, List.getElem_toArray, List.getElem_cons_zero, List.getElem_cons_succ, List.setIfInBounds_toArray, List.set_cons_zero, List.set_cons_succ]
                      refine wpAnyH_take (i := 5) (v := ?_) rfl (by kernel_rfl) (by kernel_rfl) (by kernel_rfl) (fun _ _ _ h => h) (.inl ⟨by rfl, ?_⟩) (by assumption) ?_
                      rotate_left 1
                      · intro w0 hSw
                        obtain ⟨z0, z1, z2, z3, z4⟩ := hSw
                        go_simp <;> with_reducible rfl
                      try simp only [Act.put, List.getElem_toArray, List.getElem_cons_zero, List.getElem_cons_succ, List.setIfInBounds_toArray, List.set_cons_zero, List.set_cons_succ]
                      refine wpAnyH_take (i := 6) (v := ?_) rfl (by kernel_rfl) (by kernel_rfl) (by kernel_rfl) (fun _ _ _ h => h) (.inl ⟨by rfl, ?_⟩) (by assumption) ?_
                      rotate_left 1
                      · intro w0 hSw
                        go_simp <;> with_reducible rfl
                      try simp only [Act.put, List.getElem_toArray, List.getElem_cons_zero, List.getElem_cons_succ, List.setIfInBounds_toArray, List.set_cons_zero, List.set_cons_succ]
                      refine wpAnyH_take (i := 7) (v := ?_) rfl (by kernel_rfl) (by kernel_rfl) (by kernel_rfl) (fun _ _ _ h => h) (.inl ⟨by rfl, ?_⟩) (by assumption) ?_
                      rotate_left 1
                      · intro w0 hSw
                        go_simp <;> with_reducible rfl
                      try simp only [Act.put, List.getElem_toArray, List.getElem_cons_zero, List.getElem_cons_succ, List.setIfInBounds_toArray, List.set_cons_zero, List.set_cons_succ]
                      refine wpAnyH_take (i := 8) (v := ?_) rfl (by kernel_rfl) (by kernel_rfl) (by kernel_rfl) (fun _ _ _ h => h) (.inl ⟨by rfl, ?_⟩) (by assumption) ?_
                      rotate_left 1
                      · intro w0 hSw
                        go_simp <;> with_reducible rfl
                      try simp only [Act.put, List.getElem_toArray, List.getElem_cons_zero, List.getElem_cons_succ, List.setIfInBounds_toArray, List.set_cons_zero, List.set_cons_succ]
                      refine wpAnyH_take (i := 9) (v := ?_) rfl (by kernel_rfl) (by kernel_rfl) (by kernel_rfl) (fun _ _ _ h => h) (.inl ⟨by rfl, ?_⟩) (by assumption) ?_
                      rotate_left 1
                      · intro w0 hSw
                        obtain ⟨z0, z1, z2, z3, z4⟩ := hSw
                        go_simp <;> with_reducible rfl
                      try simp only [Act.put, List.getElem_toArray, List.getElem_cons_zero, List.getElem_cons_succ, List.setIfInBounds_toArray, List.set_cons_zero, List.set_cons_succ]
                      refine wpAnyH_take (i := 10) (v := ?_) rfl (by kernel_rfl) (by kernel_rfl) (by kernel_rfl) (fun _ _ _ h => h) (.inl ⟨by rfl, ?_⟩) (by assumption) ?_
                      rotate_left 1
                      · intro w0 hSw
                        go_simp <;> with_reducible rfl
                      try simp only [Act.put, List.getElem_toArray, List.getElem_cons_zero, List.getElem_cons_succ, List.setIfInBounds_toArray, List.set_cons_zero, List.set_cons_succ]
                      refine wpAnyH_take (i := 11) (v := ?_) rfl (by kernel_rfl) (by kernel_rfl) (by kernel_rfl) (fun _ _ _ h => h) (.inl ⟨by rfl, ?_⟩) (by assumption) ?_
                      rotate_left 1
                      · intro w0 hSw
                        go_simp <;> with_reducible rfl
                      try simp only [Act.put, List.getElem_toArray, List.getElem_cons_zero, List.getElem_cons_succ, List.setIfInBounds_toArray, List.set_cons_zero, List.set_cons_succ]
                      refine wpAnyH_take (i := 12) (v := ?_) rfl (by kernel_rfl) (by kernel_rfl) (by kernel_rfl) (fun _ _ _ h => h) (.inl ⟨by rfl, ?_⟩) (by assumption) ?_
                      rotate_left 1
                      · intro w0 hSw
                        go_simp <;> with_reducible rfl
                      try simp only [Act.put, List.getElem_toArray, List.getElem_cons_zero, List.getElem_cons_succ, List.setIfInBounds_toArray, List.set_cons_zero, List.set_cons_succ]
                      refine wpAnyH_take (i := 13) (v := ?_) rfl (by kernel_rfl) (by kernel_rfl) (by kernel_rfl) (fun _ _ _ h => h) (.inl ⟨by rfl, ?_⟩) (by assumption) ?_
                      rotate_left 1
                      · intro w0 hSw
                        obtain ⟨z0, z1, z2, z3, z4⟩ := hSw
                        go_simp <;> with_reducible rfl
                      try simp only [Act.put, List.getElem_toArray, List.getElem_cons_zero, List.getElem_cons_succ, List.setIfInBounds_toArray, List.set_cons_zero, List.set_cons_succ]
                      refine wpAnyH_take (i := 14) (v := ?_) rfl (by kernel_rfl) (by kernel_rfl) (by kernel_rfl) (fun _ _ _ h => h) (.inl ⟨by rfl, ?_⟩) (by assumption) ?_
                      rotate_left 1
                      · intro w0 hSw
                        go_simp <;> with_reducible rfl
                      try simp only [Act.put, List.getElem_toArray, List.getElem_cons_zero, List.getElem_cons_succ, List.setIfInBounds_toArray, List.set_cons_zero, List.set_cons_succ]
                      refine wpAnyH_take (i := 15) (v := ?_) rfl (by kernel_rfl) (by kernel_rfl) (by kernel_rfl) (fun _ _ _ h => h) (.inl ⟨by rfl, ?_⟩) (by assumption) ?_
                      rotate_left 1
                      · intro w0 hSw
                        go_simp <;> with_reducible rfl
                      try simp only [Act.put, List.getElem_toArray, List.getElem_cons_zero, List.getElem_cons_succ, List.setIfInBounds_toArray, List.set_cons_zero, List.set_cons_succ]
                      refine wpAnyH_take (i := 16) (v := ?_) rfl (by kernel_rfl) (by kernel_rfl) (by kernel_rfl) (fun _ _ _ h => h) (.inl ⟨by rfl, ?_⟩) (by assumption) ?_
                      rotate_left 1
                      · intro w0 hSw
                        go_simp <;> with_reducible rfl
                      try simp only [Act.put, List.getElem_toArray, List.getElem_cons_zero, List.getElem_cons_succ, List.setIfInBounds_toArray, List.set_cons_zero, List.set_cons_succ]
                      refine wpAnyH_take (i := 17) (v := ?_) rfl (by kernel_rfl) (by kernel_rfl) (by kernel_rfl) (fun _ _ _ h => h) (.inl ⟨by rfl, ?_⟩) (by assumption) ?_
                      rotate_left 1
                      · intro w0 hSw
                        go_simp <;> with_reducible rfl
                      try simp only [Act.put, List.getElem_toArray, List.getElem_cons_zero, List.getElem_cons_succ, List.setIfInBounds_toArray, List.set_cons_zero, List.set_cons_succ]
                      refine wpAnyH_take (i := 18) (v := ?_) rfl (by kernel_rfl) (by kernel_rfl) (by kernel_rfl) (fun _ _ _ h => h) (.inl ⟨by rfl, ?_⟩) (by assumption) ?_
                      rotate_left 1
                      · intro w0 hSw
                        obtain ⟨z0, z1, z2, z3, z4⟩ := hSw
                        go_simp <;> with_reducible rfl
                      try simp only [Act.put, List.getElem_toArray, List.getElem_cons_zero, List.getElem_cons_succ, List.setIfInBounds_toArray, List.set_cons_zero, List.set_cons_succ]
                      refine wpAnyH_take (i := 19) (v := ?_) rfl (by kernel_rfl) (by kernel_rfl) (by kernel_rfl) (fun _ _ _ h => h) (.inl ⟨by rfl, ?_⟩) (by assumption) ?_
                      rotate_left 1
                      · intro w0 hSw
                        go_simp <;> with_reducible rfl
                      try simp only [Act.put, List.getElem_toArray, List.getElem_cons_zero, List.getElem_cons_succ, List.setIfInBounds_toArray, List.set_cons_zero, List.set_cons_succ]
                      refine wpAnyH_take (i := 20) (v := ?_) rfl (by kernel_rfl) (by kernel_rfl) (by kernel_rfl) (fun _ _ _ h => h) (.inl ⟨by rfl, ?_⟩) (by assumption) ?_
                      rotate_left 1
                      · intro w0 hSw
                        go_simp <;> with_reducible rfl
                      try simp only [Act.put, List.getElem_toArray, List.getElem_cons_zero, List.getElem_cons_succ, List.setIfInBounds_toArray, List.set_cons_zero, List.set_cons_succ]
                      refine wpAnyH_take (i := 21) (v := ?_) rfl (by kernel_rfl) (by kernel_rfl) (by kernel_rfl) (fun _ _ _ h => h) (.inl ⟨by rfl, ?_⟩) (by assumption) ?_
                      rotate_left 1
                      · intro w0 hSw
                        go_simp <;> with_reducible rfl
                      try simp only [Act.put, List.getElem_toArray, List.getElem_cons_zero, List.getElem_cons_succ, List.setIfInBounds_toArray, List.set_cons_zero, List.set_cons_succ]
                      refine wpAnyH_take (i := 22) (v := ?_) rfl (by kernel_rfl) (by kernel_rfl) (by kernel_rfl) (fun _ _ _ h => h) (.inl ⟨by rfl, ?_⟩) (by assumption) ?_
                      rotate_left 1
                      · intro w0 hSw
                        obtain ⟨z0, z1, z2, z3, z4⟩ := hSw
                        go_simp <;> with_reducible rfl
                      try simp only [Act.put, List.getElem_toArray, List.getElem_cons_zero, List.getElem_cons_succ, List.setIfInBounds_toArray, List.set_cons_zero, List.set_cons_succ]
                      refine wpAnyH_take (i := 23) (v := ?_) rfl (by kernel_rfl) (by kernel_rfl) (by kernel_rfl) (fun _ _ _ h => h) (.inl ⟨by rfl, ?_⟩) (by assumption) ?_
                      rotate_left 1
                      · intro w0 hSw
                        go_simp <;> with_reducible rfl
                      try simp only [Act.put, List.getElem_toArray, List.getElem_cons_zero, List.getElem_cons_succ, List.setIfInBounds_toArray, List.set_cons_zero, List.set_cons_succ]
                      refine wpAnyH_take (i := 24) (v := ?_) rfl (by kernel_rfl) (by kernel_rfl) (by kernel_rfl) (fun _ _ _ h => h) (.inl ⟨by rfl, ?_⟩) (by assumption) ?_
                      rotate_left 1
                      · intro w0 hSw
                        go_simp <;> with_reducible rfl
                      try simp only [Act.put, List.getElem_toArray, List.getElem_cons_zero, List.getElem_cons_succ, List.setIfInBounds_toArray, List.set_cons_zero, List.set_cons_succ]
                      refine wpAnyH_take (i := 25) (v := ?_) rfl (by kernel_rfl) (by kernel_rfl) (by kernel_rfl) (fun _ _ _ h => h) (.inl ⟨by rfl, ?_⟩) (by assumption) ?_
                      rotate_left 1
                      · intro w0 hSw
                        go_simp <;> with_reducible rfl
                      try simp only [Act.put, List.getElem_toArray, List.getElem_cons_zero, List.getElem_cons_succ, List.setIfInBounds_toArray, List.set_cons_zero, List.set_cons_succ]
                      refine wpAnyH_take (i := 26) (v := ?_) rfl (by kernel_rfl) (by kernel_rfl) (by kernel_rfl) (fun _ _ _ h => h) (.inl ⟨by rfl, ?_⟩) (by assumption) ?_
                      rotate_left 1
                      · intro w0 hSw
                        go_simp <;> with_reducible rfl
                      try simp only [Act.put, List.getElem_toArray, List.getElem_cons_zero, List.getElem_cons_succ, List.setIfInBounds_toArray, List.set_cons_zero, List.set_cons_succ]
                      refine wpAnyH_ready (rs := [27]) (by kernel_rfl) (by simp) ?_
                      refine AllReadyH.cons rfl (fun K hK => ?_) AllReadyH.nil
                      go_simp
                      refine hK.out _ _ (⟨nine_drew (q := w.heap.size + 1) hHeld.1 (show gh ≠ w.heap.size + 1 by have := HGH.out; omega) _ _ _ _ _ _ _ _ _, nine_drew (q := w.heap.size + 1) hHeld.2.1 (show gh ≠ w.heap.size + 1 by have := HGH.out; omega) _ _ _ _ _ _ _ _ _, nine_drew (q := w.heap.size + 1) hHeld.2.2.1 (show gh ≠ w.heap.size + 1 by have := HGH.out; omega) _ _ _ _ _ _ _ _ _, nine_drew (q := w.heap.size + 1) hHeld.2.2.2.1 (show gy ≠ w.heap.size + 1 by have := HGY.out; omega) _ _ _ _ _ _ _ _ _, nine_drew (q := w.heap.size + 1) hHeld.2.2.2.2 (show gy ≠ w.heap.size + 1 by have := HGY.out; omega) _ _ _ _ _ _ _ _ _⟩) (fun hHeld => ?_)
                      clear hK K
                      try simp only [Act.put, List.getElem_toArray, List.getElem_cons_zero, List.getElem_cons_succ, List.setIfInBounds_toArray, List.set_cons_zero, List.set_cons_succ]
                      refine wpAnyH_take (i := 28) (v := ?_) rfl (by kernel_rfl) (by kernel_rfl) (by kernel_rfl) (fun _ _ _ h => h) (.inl ⟨by rfl, ?_⟩) (by assumption) ?_
                      rotate_left 1
                      · intro w0 hSw
                        go_simp <;> with_reducible rfl
                      try simp only [Act.put, List.getElem_toArray, List.getElem_cons_zero, List.getElem_cons_succ, List.setIfInBounds_toArray, List.set_cons_zero, List.set_cons_succ]
                      refine wpAnyH_done (by kernel_rfl) ?_ 0
                      go_wp2_with fail
                      rw [nine_sets]
                      refine bodyPost_ret (results_cells2 rfl _ (w9.setCells (w.heap.size + 1) 0 [.int .u64 (numV h0), .int .u64 (numV h1), .string (txtB h2), .string (txtB h3), .string (txtB h4), .string (txtB y0), .string (txtB y1), .int .u64 (numV y2), .slice pv (txsL i2.list).length cv]).drew (w.heap.size + 1) [.int .u64 (numV h0), .int .u64 (numV h1), .string (txtB h2), .string (txtB h3), .string (txtB h4), .string (txtB y0), .string (txtB y1), .int .u64 (numV y2), .slice pv (txsL i2.list).length cv] _ rfl HRG.out.drew.range Tryd.underlying37 rfl infoLight) rfl ?_
                      have hk1 : numB h0 = false := by simpa using HK1.out
                      have hk2 : numB h1 = false := by simpa using HK2.out
                      have hk3 : numB y2 = false := by simpa using HK3.out
                      have hts : tsL i2 = txsL i2.list := HT.out.2 HDD.out
                      have hgood : lightB x = false := by
                        obtain ⟨g0, g1, g2⟩ := HG0.out trivial
                        obtain ⟨g3, g4⟩ := HG1.out trivial
                        rw [HBD2.out, hk1, hk2, hk3, g0, g1, g2, g3, g4, HT.out.1, HTX.out, HDD.out]
                        rfl
                      refine ⟨.inr ⟨hgood, pv, cv, ?_, ?_, ?_⟩, HB0.out.trans ((B9.out.mono HB0.out.size).trans ((sets_below (by omega) [.int .u64 (numV h0), .int .u64 (numV h1), .string (txtB h2), .string (txtB h3), .string (txtB h4), .string (txtB y0), .string (txtB y1), .int .u64 (numV y2), .slice pv (txsL i2.list).length cv] 0 w9).trans (Below.refl _ _).drew))⟩
                      · rw [hts, HC.out]
                        rfl
                      · rw [hts]
                        exact Strs.below (HS.out.upon (Upon.sets (w.heap.size + 1) [.int .u64 (numV h0), .int .u64 (numV h1), .string (txtB h2), .string (txtB h3), .string (txtB h4), .string (txtB y0), .string (txtB y1), .int .u64 (numV y2), .slice pv (txsL i2.list).length cv] 0 w9) (fun e => by
                          have h1 := HOV.out _ e
                          have h2 := HW8.out
                          omega)) (Below.refl _ _).drew
                      · rw [hts]
                        intro j e
                        have h1 := HOV.out j e
                        have h2 := HW8.out
                        omega
end Go.Proofs.YtfbopnebfdkhdaaDoor
/- Contract of pharosref13.committeeOf; what lightOf gives, in one form. -/
namespace Go.Proofs.YtfbopnebfdkhdaaDoor
open Go.RowKit Go.Shelf Go.Lib
attribute [local go_sem] Oper.semAt_some

theorem commZ_one : commZ.toArray.all (·.oneCell') = true := all_oneCell_toArray (fun v hv => by
  unfold commZ at hv
  simp only [List.mem_cons, List.not_mem_nil, or_false] at hv
  rcases hv with rfl | rfl <;> rfl)
theorem two_one (p : Option Addr) (n c : Nat) (t : ByteArray) : ([.slice p n c, .string t] : List Value).toArray.all (·.oneCell') = true := all_oneCell_toArray (fun v hv => by
  simp only [List.mem_cons, List.not_mem_nil, or_false] at hv
  rcases hv with rfl | rfl <;> rfl)
theorem lightOf_gen (x : Item) (p : Option Addr) (c : Nat) (w : World) (hr : Reads w w.heap.size (.slice p x.list.length c) x.list) (hz : x.size ≤ 1099511627775) : Calls Tryd.prog 52 #[.agg #[.bool x.isList, .string (txtB x), .slice p x.list.length c]] w fun e w' =>
    ∃ cl a, e = .returned (.tuple #[.agg cl.toArray, .bool a]) ∧ cl.length = 9 ∧ cl.toArray.all (·.oneCell') = true ∧ a = (!lightB x) ∧
      (lightB x = false → ∃ p c, cl = lightC x (.slice p (tsL (li x 2)).length c) ∧ Strs w' (.slice p (tsL (li x 2)).length c) (tsL (li x 2)) ∧ ∀ j, (Value.slice p (tsL (li x 2)).length c).ownBlock = some j → w.heap.size ≤ j) ∧ Below w.heap.size w w' := by
  refine (lightOf_any x p c w hr hz).mono ?_
  rintro e w' ⟨⟨hb, rfl⟩ | ⟨hb, p, c, rfl, hs⟩, hw⟩
  · exact ⟨lightZ, false, rfl, rfl, lightZ_one, by rw [hb]; rfl, fun h => (by rw [hb] at h; cases h), hw⟩
  · exact ⟨_, true, rfl, rfl, lightC_one _ _ _ _, by rw [hb]; rfl, fun _ => ⟨p, c, rfl, hs⟩, hw⟩
set_option maxRecDepth 100000 in
set_option maxHeartbeats 12800000 in
theorem committeeOf_any (x : Item) (p : Option Addr) (c : Nat) (w : World) (hr : Reads w w.heap.size (.slice p x.list.length c) x.list) (hz : x.size ≤ 1099511627775) : Calls Tryd.prog 53 #[.agg #[.bool x.isList, .string (txtB x), .slice p x.list.length c]] w fun e w' =>
    ((commB x = true ∧ ∃ p n c t, e = .returned (.tuple #[.agg ([.slice p n c, .string t] : List Value).toArray, .bool false])) ∨
     (commB x = false ∧ ∃ p c, e = .returned (.tuple #[.agg (commC x (.slice p (tsL (ci x 0)).length c)).toArray, .bool true]) ∧ Strs w' (.slice p (tsL (ci x 0)).length c) (tsL (ci x 0)) ∧ ∀ j, (Value.slice p (tsL (ci x 0)).length c).ownBlock = some j → w.heap.size ≤ j)) ∧ Below w.heap.size w w' := by
  have G0 := fun W => many_any x.isList (txtB x) p x.list.length c 2 W
  obtain ⟨m0, hm0⟩ : ∃ v, (x.isList && ((x.list.length : Int) == 2)) = v := ⟨_, rfl⟩
  rw [hm0] at G0
  have H0 := Lib.hid G0
  have HM0 := Lib.hid hm0
  have ho0 : opnB x 2 = !m0 := by rw [← hm0]; exact opnB_many x 2
  have HO0 := Lib.hid ho0
  obtain ⟨w0, hw0⟩ : ∃ W, (w.alloc (.cells #[.bool x.isList, .string (txtB x), .slice p x.list.length c] 80)).alloc (.cells commZ.toArray 44) = W := ⟨_, rfl⟩
  have hb0 : Below w.heap.size w w0 := by rw [← hw0]; exact ((Below.refl _ _).alloc (Nat.le_refl _) _).alloc (by simp) _
  have HP := Lib.hid (show ∀ W, Below w0.heap.size w0 W → HasCells W (w.heap.size + 1) commZ 44 from fun W hb => by
    have h1 : HasCells w0 (w.heap.size + 1) commZ 44 := by
      rw [← hw0]
      have := HasCells.new (w.alloc (.cells #[.bool x.isList, .string (txtB x), .slice p x.list.length c] 80)) commZ 44
      rwa [World.size_alloc] at this
    exact (hb.block _ h1.lt).trans h1)
  have HX := Lib.hid (show ∀ W, Below w0.heap.size w0 W → W.cell? ⟨w.heap.size, 0, none⟩ = some (.bool x.isList) ∧ W.cell? ⟨w.heap.size, 1, none⟩ = some (.string (txtB x)) ∧ W.cell? ⟨w.heap.size, 2, none⟩ = some (.slice p x.list.length c) from fun W hb => by
    refine cells_three (t := 80) ?_
    rw [← hw0] at hb
    exact ((Below.refl _ _).alloc (Nat.le_refl _) _).trans (hb.mono (by simp)))
  have HB0 := Lib.hid hb0
  have HR := Lib.hid hr
  have HW0 := Lib.hid hw0
  have HZ := Lib.hid hz
  clear G0 hr hz hb0 hw0 hm0 ho0
  cases m0 with
  | false =>
    obtain ⟨q, hq⟩ : ∃ q, x.list.length = q := ⟨_, rfl⟩
    obtain ⟨ib, hib⟩ : ∃ v, x.isList = v := ⟨_, rfl⟩
    obtain ⟨tx, htx⟩ : ∃ v, txtB x = v := ⟨_, rfl⟩
    rw [hq, hib, htx] at H0 HX HW0 ⊢
    have hbad : commB x = true := by unfold commB; rw [HO0.out]; rfl
    have HBad := Lib.hid hbad
    clear hq hib htx hbad
    go_enter Tryd.func53, Tryd.ntmps53
    go_wp2_with fail
    rw [show (w.alloc (.cells #[.bool ib, .string tx, .slice p q c] 80)).alloc (.cells #[.slice none 0 0, .string ⟨#[]⟩] 44) = w0 from HW0.out]
    refine (H0.out w0).mono ?_
    rintro e w1 ⟨rfl, b1⟩
    go_wp2_with ((with_reducible refine store_gate 44 ?_); refine wpList_store_mid rfl 44 _ _ rfl (w.heap.size + 1) 0 commZ.toArray rfl rfl ((HP.out w1 b1).there 0 2 (by decide)) infoComm commZ_one ?_)
    refine bodyPost_ret (results_cells2 rfl _ _ (w.heap.size + 1) commZ _ rfl (((HP.out w1 b1).sets commZ 0).range) Tryd.underlying44 rfl infoComm) rfl ?_
    exact ⟨.inl ⟨HBad.out, _, _, _, _, rfl⟩, HB0.out.trans ((b1.mono HB0.out.size).trans (sets_below (by omega) _ _ _))⟩
  | true =>
    obtain ⟨hil, hl2⟩ := many_list (m := 2) HM0.out
    obtain ⟨c0, c1, hxs⟩ := list2 hl2
    obtain ⟨gx, ox, rfl, hrow⟩ := Reads.row (HR.out) (by rw [hxs]; exact Nat.succ_pos _)
    obtain ⟨pc0, cc0, hf, hrc0⟩ := hrow 0 c0 (by rw [hxs]; rfl)
    have Fc0 := Lib.hid (show ItAt w gx (ox) c0 (.slice pc0 c0.list.length cc0) from fun W hb => by have := hf W hb; simpa [Nat.add_assoc] using this)
    have Rc0 := Lib.hid hrc0
    clear hf hrc0
    obtain ⟨pc1, cc1, hf, hrc1⟩ := hrow 1 c1 (by rw [hxs]; rfl)
    have Fc1 := Lib.hid (show ItAt w gx (ox + 3) c1 (.slice pc1 c1.list.length cc1) from fun W hb => by have := hf W hb; simpa [Nat.add_assoc] using this)
    have Rc1 := Lib.hid hrc1
    clear hf hrc1
    clear hrow
    have hop : opnL x 2 = [c0, c1] := by rw [opnL_good (by rw [HO0.out]; rfl), hxs]
    have l0 : ci x 0 = c0 := by unfold ci; rw [hop]; rfl
    have l1 : ci x 1 = c1 := by unfold ci; rw [hop]; rfl
    have hz0 : c0.size ≤ 1099511627775 := by
      have h1 := HZ.out
      rw [Item.size_eq, hxs] at h1
      simp only [sizeAll] at h1
      omega
    have hbd : commB x = (c1.isList || tsB c0) := by
      unfold commB
      rw [HO0.out, l0, l1]
      simp
    have HCC := Lib.hid (show ∀ V, commC x V = [V, .string (txtB c1)] from fun V => by unfold commC; rw [l1])
    have HBD := Lib.hid hbd
    rw [l0]
    have HT := Lib.hid (tsB_flat c0)
    have H5 := Lib.hid (fun W (hb : Below w.heap.size w W) => textsOf_any c0 pc0 cc0 W (Rc0.out.below hb hb.size) (by have := c0.len_size; omega))
    rw [hl2, hil] at H0 HX HW0 ⊢
    obtain ⟨tx, htx⟩ : ∃ v, txtB x = v := ⟨_, rfl⟩
    rw [htx] at H0 HX HW0 ⊢
    have HCL := Lib.hid (show ∃ b, c1.isList = b from ⟨_, rfl⟩)
    clear hl2 hil htx hop l0 l1 hbd hz0
    obtain ⟨ib, hib⟩ := HCL.out
    have HIB := Lib.hid hib
    rw [hib] at HBD
    have hib2 : ∀ W, Below w.heap.size w W → W.cell? ⟨gx, ox + 3, none⟩ = some (.bool ib) := fun W hb => by rw [← hib]; exact (Fc1.out W hb).1
    have HI2 := Lib.hid hib2
    clear hib hib2 HCL
    cases ib with
    | true =>
      have hbad : commB x = true := by rw [HBD.out]; rfl
      have HBad := Lib.hid hbad
      clear hbad
      go_enter Tryd.func53, Tryd.ntmps53
      go_wp2_with fail
      rw [show (w.alloc (.cells #[.bool true, .string tx, .slice (some ⟨gx, ox, none⟩) 2 c] 80)).alloc (.cells #[.slice none 0 0, .string ⟨#[]⟩] 44) = w0 from HW0.out]
      refine (H0.out w0).mono ?_
      rintro e w1 ⟨rfl, b1⟩
      obtain ⟨x0, x1, x2⟩ := HX.out w1 b1
      have a0 := HI2.out w1 (HB0.out.trans (b1.mono HB0.out.size))
      go_wp2_with ((with_reducible refine store_gate 44 ?_); refine wpList_store_mid rfl 44 _ _ rfl (w.heap.size + 1) 0 commZ.toArray rfl rfl ((HP.out w1 b1).there 0 2 (by decide)) infoComm commZ_one ?_)
      refine bodyPost_ret (results_cells2 rfl _ _ (w.heap.size + 1) commZ _ rfl (((HP.out w1 b1).sets commZ 0).range) Tryd.underlying44 rfl infoComm) rfl ?_
      exact ⟨.inl ⟨HBad.out, _, _, _, _, rfl⟩, HB0.out.trans ((b1.mono HB0.out.size).trans (sets_below (by omega) _ _ _))⟩
    | false =>
      go_enter Tryd.func53, Tryd.ntmps53
      go_wp2_with fail
      rw [show (w.alloc (.cells #[.bool true, .string tx, .slice (some ⟨gx, ox, none⟩) 2 c] 80)).alloc (.cells #[.slice none 0 0, .string ⟨#[]⟩] 44) = w0 from HW0.out]
      refine (H0.out w0).mono ?_
      rintro e w1 ⟨rfl, b1⟩
      obtain ⟨x0, x1, x2⟩ := HX.out w1 b1
      have n1 : Below w.heap.size w w1 := HB0.out.trans (b1.mono HB0.out.size)
      have a0 := HI2.out w1 n1
      obtain ⟨d0, d1, d2⟩ := Fc0.out w1 n1
      go_wp2_with fail
      have hz1 : w.heap.size + 2 ≤ w1.heap.size := by
        have h1 := b1.size
        have h2 : w0.heap.size = w.heap.size + 2 := by
          rw [← HW0.out]
          simp
        omega
      have HZ1 := Lib.hid hz1
      refine (H5.out w1 n1).mono ?_
      clear hz1
      rintro e w2 ⟨(⟨ht, rfl⟩ | ⟨ht, pv, cv, rfl, hs, hov⟩), hb2⟩
      · have b2 := b1.trans (hb2.mono b1.size)
        have hbad : commB x = true := by
          rw [HBD.out, HT.out.1, ht]
          simp
        have n2 : Below w.heap.size w w2 := HB0.out.trans (b2.mono HB0.out.size)
        clear hb2 ht x0 x1 x2 a0 d0 d1 d2 n1
        obtain ⟨x0, x1, x2⟩ := HX.out w2 b2
        obtain ⟨e0, e1, e2⟩ := Fc1.out w2 n2
        have HBad := Lib.hid hbad
        clear hbad
        go_wp2_with ((with_reducible refine store_gate 44 ?_); refine wpList_store_mid rfl 44 _ _ rfl (w.heap.size + 1) 0 ([.slice none 0 0, .string (txtB c1)] : List Value).toArray rfl rfl ((HP.out w2 b2).there 0 2 (by decide)) infoComm (two_one _ _ _ _) ?_)
        refine bodyPost_ret (results_cells2 rfl _ _ (w.heap.size + 1) [.slice none 0 0, .string (txtB c1)] _ rfl (((HP.out w2 b2).sets [.slice none 0 0, .string (txtB c1)] 0).range) Tryd.underlying44 rfl infoComm) rfl ?_
        exact ⟨.inl ⟨HBad.out, _, _, _, _, rfl⟩, HB0.out.trans ((b2.mono HB0.out.size).trans (sets_below (by omega) _ _ _))⟩
      · have b2 := b1.trans (hb2.mono b1.size)
        have n2 : Below w.heap.size w w2 := HB0.out.trans (b2.mono HB0.out.size)
        have HTX := Lib.hid ht
        have HS := Lib.hid hs
        have HOV := Lib.hid hov
        clear hb2 ht x0 x1 x2 a0 d0 d1 d2 n1 hs hov
        obtain ⟨x0, x1, x2⟩ := HX.out w2 b2
        obtain ⟨e0, e1, e2⟩ := Fc1.out w2 n2
        obtain ⟨jb, hjb⟩ : ∃ v, c0.isList = v := ⟨_, rfl⟩
        rw [hjb]
        have HJB := Lib.hid hjb
        clear hjb
        go_wp2_with ((with_reducible refine store_gate 44 ?_); refine wpList_store_mid rfl 44 _ _ rfl (w.heap.size + 1) 0 ([.slice pv (txsL c0.list).length cv, .string (txtB c1)] : List Value).toArray rfl rfl ((HP.out w2 b2).there 0 2 (by decide)) infoComm (two_one _ _ _ _) ?_)
        refine bodyPost_ret (results_cells2 rfl _ _ (w.heap.size + 1) [.slice pv (txsL c0.list).length cv, .string (txtB c1)] _ rfl (((HP.out w2 b2).sets [.slice pv (txsL c0.list).length cv, .string (txtB c1)] 0).range) Tryd.underlying44 rfl infoComm) rfl ?_
        have hw := HB0.out.trans ((b2.mono HB0.out.size).trans (sets_below (show w.heap.size ≤ w.heap.size + 1 by omega) [.slice pv (txsL c0.list).length cv, .string (txtB c1)] 0 w2))
        cases jb with
        | false =>
          refine ⟨.inl ⟨?_, _, _, _, _, rfl⟩, hw⟩
          rw [HBD.out, HT.out.1, HJB.out]
          simp
        | true =>
          have hts := HT.out.2 HJB.out
          refine ⟨.inr ⟨?_, pv, cv, ?_, ?_, ?_⟩, hw⟩
          · rw [HBD.out, HT.out.1, HJB.out, HTX.out]
            rfl
          · rw [hts, HCC.out]
            rfl
          · rw [hts]
            refine HS.out.upon (Upon.sets _ _ _ _) (fun e => ?_)
            have h1 := HOV.out _ e
            have h2 := HZ1.out
            omega
          · rw [hts]
            intro j e
            have h1 := HOV.out j e
            have h2 := HZ1.out
            omega
end Go.Proofs.YtfbopnebfdkhdaaDoor
