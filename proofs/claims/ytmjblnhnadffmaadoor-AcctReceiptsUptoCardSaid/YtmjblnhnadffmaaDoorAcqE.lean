/- What the walks of receipts use of cells, decoding and accounts. -/
import Derived.Test.YtmjblnhnadffmaaDoorAcqP
import Derived.Test.YtmjblnhnadffmaaDoorAccF
import Derived.Test.YtmjblnhnadffmaaDoorRound
import Derived.Test.YtmjblnhnadffmaaDoorKitC
import Derived.Deep.RegionHeld3
import Derived.Deep.MidRow
import Derived.Lib.Hide
import Derived.RangeFuncNested
import Derived.Shelf.Abstract
import Derived.Scope
namespace Go.Proofs.YtmjblnhnadffmaaDoor
open Go.RowKit Go.Shelf Go.Lib
attribute [local go_sem] Oper.semAt_some

/-- a block of cells, whole -/
def HasCells (W : World) (q : Nat) (cs : List Value) (t : TypeId) : Prop := W.heap[q]? = some (.cells cs.toArray t (0, 0))
theorem HasCells.set {W : World} {q : Nat} {cs : List Value} {t : TypeId} (h : HasCells W q cs t) (j : Nat) (v : Value) : HasCells (W.setCell ⟨q, j, none⟩ v) q (cs.set j v) t := by
  show (W.heap.modify q _)[q]? = _
  rw [Array.getElem?_modify, if_pos rfl, show W.heap[q]? = _ from h]
  simp
theorem HasCells.cell {W : World} {q : Nat} {cs : List Value} {t : TypeId} (h : HasCells W q cs t) {j : Nat} {v : Value} (hj : cs[j]? = some v) : W.cell? ⟨q, j, none⟩ = some v := by
  rw [World.cell?, show W.heap[q]? = _ from h]
  simpa using hj
theorem HasCells.frozen {W : World} {q : Nat} {cs : List Value} {t : TypeId} (h : HasCells W q cs t) (j : Nat) : W.frozen? ⟨q, j, none⟩ = false := by
  rw [World.frozen?, show W.heap[q]? = _ from h]; simp
theorem HasCells.lt {W : World} {q : Nat} {cs : List Value} {t : TypeId} (h : HasCells W q cs t) : q < W.heap.size := (Array.getElem?_eq_some_iff.1 h).1
theorem HasCells.range {W : World} {q : Nat} {cs : List Value} {t : TypeId} (h : HasCells W q cs t) : W.rangeAt q 0 cs := fun j v hj => by rw [Nat.zero_add]; exact h.cell hj
theorem HasCells.there {W : World} {q : Nat} {cs : List Value} {t : TypeId} (h : HasCells W q cs t) (o k : Nat) (hk : o + k ≤ cs.length) : W.there q o k := fun j hj =>
  ⟨by rw [h.cell (List.getElem?_eq_getElem (by omega))]; rfl, h.frozen _⟩
theorem HasCells.new (w : World) (cs : List Value) (t : TypeId) : HasCells (w.alloc (.cells cs.toArray t)) w.heap.size cs t := World.alloc_heap_new w _
theorem HasCells.kept {W W' : World} {q : Nat} {cs : List Value} {t : TypeId} (h : HasCells W q cs t) (hb : W'.heap[q]? = W.heap[q]?) : HasCells W' q cs t := hb.trans h
theorem HasCells.below {B : Nat} {W W' : World} {q : Nat} {cs : List Value} {t : TypeId} (h : HasCells W q cs t) (hb : Below B W W') (hq : q < B) : HasCells W' q cs t := (hb.block q hq).trans h
theorem HasCells.after {W W' : World} {q : Nat} {cs : List Value} {t : TypeId} (h : HasCells W q cs t) (hb : Below W.heap.size W W') : HasCells W' q cs t := h.below hb h.lt
theorem HasCells.alloc {W : World} {q : Nat} {cs : List Value} {t : TypeId} (h : HasCells W q cs t) (o : Obj) : HasCells (W.alloc o) q cs t := h.kept (Below.heap_alloc W o q h.lt)
theorem HasCells.setOther {W : World} {q p i : Nat} {cs : List Value} {t : TypeId} (h : HasCells W q cs t) (hne : q ≠ p) (v : Value) : HasCells (W.setCell ⟨p, i, none⟩ v) q cs t := h.kept (Below.heap_setCell W ⟨p, i, none⟩ v q hne)
theorem results_cells2 {P : Program} {fn : Func} {p u : Tmp} {ty : TypeId} (h : fn.results = #[.cell p ty, .tmp u]) (tmps : Array Value) (w : World) (g : Nat) (cs : List Value) (d : TypeDesc) (hp : tmps.getD p undef = .pointer (some ⟨g, 0, none⟩)) (hc : w.rangeAt g 0 cs)
    (hu : P.underlying ty = some d) (hd : d.isRow = true) (hi : (P.info? ty).map (·.size) = some cs.length) : (results fn tmps).run P w = .ok (.tuple #[.agg cs.toArray, tmps.getD u undef]) w := by
  have hp' : tmps[p]?.getD undef = .pointer (some ⟨g, 0, none⟩) := by simpa using hp
  simp [results, h, hp', asAddr, run_loadVar_mid w g 0 ty cs d hc hu hd hi]
theorem OwnS.allocQ {base : Nat} {w : World} {v : Value} {l : List ByteArray} (h : OwnS base w v l) (o : Obj) : OwnS base (w.alloc o) v l := h.of_block (fun k e => Below.heap_alloc _ _ _ (h.lt k e).2)
theorem cells_three {w W : World} {v0 v1 v2 : Value} {t : TypeId} (hb : Below (w.alloc (.cells #[v0, v1, v2] t)).heap.size (w.alloc (.cells #[v0, v1, v2] t)) W) : W.cell? ⟨w.heap.size, 0, none⟩ = some v0 ∧ W.cell? ⟨w.heap.size, 1, none⟩ = some v1 ∧ W.cell? ⟨w.heap.size, 2, none⟩ = some v2 := by
  have hc := cells_at w [v0, v1, v2] t
  exact ⟨(hb.cell (p := ⟨w.heap.size, 0, none⟩) (by simp)).trans (hc 0 _ rfl), (hb.cell (p := ⟨w.heap.size, 1, none⟩) (by simp)).trans (hc 1 _ rfl), (hb.cell (p := ⟨w.heap.size, 2, none⟩) (by simp)).trans (hc 2 _ rfl)⟩
theorem allText_split (l : List Item) : (allText l = true ∧ ∀ y ∈ l, y.isList = false) ∨ (allText l = false ∧ ∃ y ∈ l, y.isList = true) := by
  unfold allText
  cases h : l.all fun y => !y.isList with
  | true =>
    refine .inl ⟨rfl, fun y hy => ?_⟩
    simpa using List.all_eq_true.1 h y hy
  | false =>
    obtain ⟨y, h1, h2⟩ := List.all_eq_false.1 h
    exact .inr ⟨rfl, y, h1, by simpa using h2⟩
set_option maxRecDepth 100000 in
set_option maxHeartbeats 6400000 in
theorem texts_any (x : Item) (p : Option Addr) (c : Nat) (w : World) (hr : Reads w w.heap.size (.slice p x.list.length c) x.list) (hl : x.list.length ≤ 1099511627775) : Calls Tryd.prog 46 #[.agg #[.bool x.isList, .string (bytesT x), .slice p x.list.length c]] w fun e w' =>
    ((allText x.list = false ∧ e = .returned (.tuple #[.slice none 0 0, .bool false])) ∨ (allText x.list = true ∧ ∃ p c, e = .returned (.tuple #[.slice p x.list.length c, .bool x.isList]) ∧ Strs w' (.slice p x.list.length c) (x.list.map bytesT) ∧ ∀ j, (Value.slice p x.list.length c).ownBlock = some j → w.heap.size ≤ j)) ∧ Below w.heap.size w w' := by
  have HR := Lib.hid hr
  obtain ⟨l, hxl⟩ : ∃ l, x.list = l := ⟨_, rfl⟩
  rw [hxl] at HR hl ⊢
  obtain ⟨n, hn⟩ : ∃ n, l.length = n := ⟨_, rfl⟩
  rw [hn] at HR hl ⊢
  obtain ⟨ib, hib⟩ : ∃ v, x.isList = v := ⟨_, rfl⟩
  obtain ⟨tx, htx⟩ : ∃ v, bytesT x = v := ⟨_, rfl⟩
  rw [hib, htx]
  have HN := Lib.hid hn
  have HB0 := Lib.hid (laid1 w (.cells #[.bool ib, .string tx, .slice p n c] 51))
  have HTX := Lib.hid (allText_split l)
  clear hr hxl hn hib htx
  go_enter Tryd.func46, Tryd.ntmps46
  go_wp2_with fail
  obtain ⟨w0, hw0⟩ : ∃ w0, w.alloc (.cells #[.bool ib, .string tx, .slice p n c] 51) = w0 := ⟨_, rfl⟩
  have hz0 : w.heap.size + 1 ≤ w0.heap.size := by rw [← hw0]; simp
  have HZ := Lib.hid (fun W (hb : Below w0.heap.size w0 W) => cells_three (w := w) (W := W) (v0 := .bool ib) (v1 := .string tx) (v2 := .slice p n c) (t := 51) (by rw [hw0]; exact hb))
  rw [hw0] at HB0 ⊢
  clear hw0
  go_loopw [2, 3, 4, 6, 10] (fun r2 r3 v _ i wr => r2 = .slice none 0 0 ∧ r3 = .bool false ∧ ∃ k : Nat, k ≤ n ∧ i = .int .i64 k ∧ Aside (∀ j y, j < k → l[j]? = some y → y.isList = false) ∧ Aside (OwnS w0.heap.size wr v ((l.take k).map bytesT)) ∧ Aside (Below w0.heap.size w0 wr)) (fun _ _ _ _ i _ => n - (RowKit.intOf i).toNat)
  case atStart => exact ⟨rfl, rfl, 0, Nat.zero_le _, rfl, fun j y h => by omega, OwnS.nil _ _, Below.refl _ _⟩
  case round =>
    obtain ⟨rfl, rfl, k, hk, rfl, HF, HO, HB⟩ := hrel
    obtain ⟨z0, z1, z2⟩ := HZ.out wr HB.out
    have g1 : (0 : Int) ≤ k := by omega
    by_cases hlt : k < n
    · obtain ⟨y, hy⟩ : ∃ y, l[k]? = some y := ⟨_, List.getElem?_eq_getElem (by rw [HN.out]; exact hlt)⟩
      obtain ⟨hnn, g, o, rfl, hg, hat⟩ := Reads.at HR.out (by omega)
      clear hnn
      obtain ⟨h0, h1, v', h2, _⟩ := hat k y hy
      have hbw : Below w.heap.size w wr := HB0.out.trans (HB.out.mono (by omega))
      have c0 : wr.cell? ⟨g, o + k * 3, none⟩ = some (.bool y.isList) := (hbw.cell (p := ⟨g, o + k * 3, none⟩) hg).trans h0
      have c1 : wr.cell? ⟨g, o + k * 3 + 1, none⟩ = some (.string (bytesT y)) := (hbw.cell (p := ⟨g, o + k * 3 + 1, none⟩) hg).trans h1
      have c2 : wr.cell? ⟨g, o + k * 3 + 2, none⟩ = some v' := (hbw.cell (p := ⟨g, o + k * 3 + 2, none⟩) hg).trans h2
      have hv1 : ∃ q1 m1 n1, v' = .slice q1 m1 n1 := by
        obtain ⟨_, _, v2, h2', h5⟩ := hat k y hy
        rw [h2'] at h2
        cases h2
        obtain ⟨q1, n1, e⟩ := h5.form
        exact ⟨q1, _, n1, e⟩
      obtain ⟨q1, m1, n1, rfl⟩ := hv1
      have g2 : (k : Int) < n := by omega
      have HY := Lib.hid hy
      have hf := HF.out
      have ho := HO.out
      have hb := HB.out
      clear hat h0 h1 h2 hbw hy z0 z1 z2
      cases hyl : y.isList with
      | true =>
        rw [hyl] at c0
        have HYL := Lib.hid hyl
        have hbx : Below w.heap.size w wr := HB0.out.trans (hb.mono (by omega))
        have HBX := Lib.hid (hbx.alloc hbx.size (.cells #[.bool true, .string (bytesT y), .slice q1 m1 n1] 51))
        clear hyl hf ho hb HF HO HB hbx
        go_wp2_with fail
        go_ret2
        refine ⟨.inl ⟨?_, rfl⟩, HBX.out⟩
        rcases HTX.out with ⟨h1, h3⟩ | ⟨h1, _⟩
        · have := h3 y (List.mem_of_getElem? HY.out)
          rw [HYL.out] at this; cases this
        · exact h1
      | false =>
        rw [hyl] at c0
        have hts : (l.take (k + 1)).map bytesT = (l.take k).map bytesT ++ [bytesT y] := by rw [List.take_add_one, HY.out]; simp
        have hll : ((l.take k).map bytesT).length = k := by rw [List.length_map, List.length_take, HN.out]; omega
        obtain ⟨L, hL⟩ : ∃ L, (l.take k).map bytesT = L := ⟨_, rfl⟩
        rw [hL] at hts hll ho
        obtain ⟨pv, cv, hv⟩ := ho.form
        rw [hll] at hv
        subst hv
        have hf2 : ∀ j z, j < k + 1 → l[j]? = some z → z.isList = false := fun j z hj hz => by
          by_cases h : j = k
          · subst h; rw [HY.out] at hz; cases hz; exact hyl
          · exact hf j z (by omega) hz
        obtain ⟨wa, hwa⟩ : ∃ W, wr.alloc (.cells #[.bool false, .string (bytesT y), .slice q1 m1 n1] 51) = W := ⟨_, rfl⟩
        have ho1 : OwnS w0.heap.size wa (.slice pv k cv) L := by rw [← hwa]; exact ho.allocQ _
        have hb1 : Below w0.heap.size w0 wa := by rw [← hwa]; exact hb.alloc hb.size _
        have hza : wr.heap.size + 1 = wa.heap.size := by rw [← hwa]; simp
        have z1 : wa.cell? ⟨wr.heap.size, 0, none⟩ = some (.bool false) := by rw [← hwa]; exact (cells_three (Below.refl _ _)).1
        have z2 : wa.cell? ⟨wr.heap.size, 1, none⟩ = some (.string (bytesT y)) := by rw [← hwa]; exact (cells_three (Below.refl _ _)).2.1
        have HF2 := Lib.hid hf2
        have HTS := Lib.hid hts
        have HLL := Lib.hid hll
        have HO1 := Lib.hid ho1
        have HB1 := Lib.hid hb1
        have HZA := Lib.hid hza
        have HWA := Lib.hid hwa
        clear hyl hf ho hb HF HO HB hts hll hL hf2 ho1 hb1 hza hwa z1 z2
        go_wp2_with (at_builtin; refine wpList_appendT rfl _ _ 62 rfl w0.heap.size Tryd.underlying62 infoStr _ L rfl ((HWA.out ▸ HO1.out : OwnS _ (wr.alloc _) _ _).allocQ _) ⟨wr.heap.size + 1, 0, none⟩ 1 (bytesT y) rfl ?d0 ?d1 ?d2 ?_)
        case d0 =>
          have h := cells_new (wr.alloc (.cells #[.bool false, .string (bytesT y), .slice q1 m1 n1] 51)) [.string (bytesT y)] 9 0 _ rfl
          simpa using h
        case d1 => rw [HLL.out]; omega
        case d2 => have := HB1.out.size; have := HZA.out; simp; omega
        intro v3 w3 ho3 hg3
        rw [HWA.out] at hg3
        have hb3 : Below w0.heap.size w0 w3 := (HB1.out.alloc HB1.out.size _).grown hg3 (by have := HB1.out.size; simp; omega) (fun r e => (HO1.out.lt r e).1)
        rw [← HTS.out] at ho3
        have HO3 := Lib.hid ho3
        have HB3 := Lib.hid hb3
        clear ho3 hg3 hb3 HO1 HB1 c0 c1 c2
        go_wp2_with fail
        go_roundw
        case rel => exact ⟨rfl, rfl, k + 1, by omega, by go_num, HF2.out, HO3.out, HB3.out⟩
        case measure => simp [RowKit.intOf]; omega
    · have hkn : k = n := by omega
      have g2 : ¬ ((k : Int) < n) := by omega
      have ho := HO.out
      have hb := HB.out
      have hbx : Below w.heap.size w wr := HB0.out.trans (hb.mono (by omega))
      rw [List.take_of_length_le (by rw [HN.out]; omega)] at ho
      obtain ⟨pv, cv, hv⟩ := ho.form
      have hlm : (l.map bytesT).length = n := by rw [List.length_map, HN.out]
      rw [hlm] at hv
      subst hv
      have hall : allText l = true := by
        rcases HTX.out with ⟨h1, _⟩ | ⟨_, y, h2, h3⟩
        · exact h1
        · obtain ⟨j, hj⟩ := List.getElem?_of_mem h2
          have := HF.out j y (by have := (List.getElem?_eq_some_iff.1 hj).1; rw [HN.out] at this; omega) hj
          rw [h3] at this; cases this
      have HA := Lib.hid hall
      have HST := Lib.hid ho.strs
      have hov := fun j e => (ho.lt j e).1
      have HOV := Lib.hid hov
      clear hov
      have HBX := Lib.hid hbx
      have HZ0 := Lib.hid z0
      clear ho hb HF HO HB hbx hlm hall z1 z0 z2 hkn
      go_wp2_with fail
      refine wp_region_held_drew (S := fun W => W.cell? ⟨w.heap.size, 0, none⟩ = some (.bool ib)) (by kernel_rfl) (HZ0.out) (fun hHeld => ?_)
      refine wpAnyH_take (i := 0) (v := ?_) rfl (by kernel_rfl) (by kernel_rfl) (by kernel_rfl) (fun _ _ _ h => h) (.inl ⟨by rfl, ?_⟩) (by assumption) ?_
      rotate_left 1
      · intro w0 hSw
        go_simp <;> with_reducible rfl
      try simp only [Act.put, List.getElem_toArray, List.getElem_cons_zero, List.setIfInBounds_toArray, List.set_cons_zero, List.set_cons_succ]
      refine wpAnyH_take (i := 1) (v := ?_) rfl (by kernel_rfl) (by kernel_rfl) (by kernel_rfl) (fun _ _ _ h => h) (.inl ⟨by rfl, ?_⟩) (by assumption) ?_
      rotate_left 1
      · intro w0 hSw
        go_simp <;> with_reducible rfl
      try simp only [Act.put, List.getElem_toArray, List.getElem_cons_zero, List.getElem_cons_succ, List.setIfInBounds_toArray, List.set_cons_zero, List.set_cons_succ]
      refine wpAnyH_take (i := 2) (v := ?_) rfl (by kernel_rfl) (by kernel_rfl) (by kernel_rfl) (fun _ _ _ h => h) (.inl ⟨by rfl, ?_⟩) (by assumption) ?_
      rotate_left 1
      · intro w0 hSw
        go_simp <;> with_reducible rfl
      try simp only [Act.put, List.getElem_toArray, List.getElem_cons_zero, List.getElem_cons_succ, List.setIfInBounds_toArray, List.set_cons_zero, List.set_cons_succ]
      refine wpAnyH_take (i := 3) (v := ?_) rfl (by kernel_rfl) (by kernel_rfl) (by kernel_rfl) (fun _ _ _ h => h) (.inl ⟨by rfl, ?_⟩) (by assumption) ?_
      rotate_left 1
      · intro w0 hSw
        go_simp <;> with_reducible rfl
      try simp only [Act.put, List.getElem_toArray, List.getElem_cons_zero, List.getElem_cons_succ, List.setIfInBounds_toArray, List.set_cons_zero, List.set_cons_succ]
      refine wpAnyH_take (i := 4) (v := ?_) rfl (by kernel_rfl) (by kernel_rfl) (by kernel_rfl) (fun _ _ _ h => h) (.inl ⟨by rfl, ?_⟩) (by assumption) ?_
      rotate_left 1
      · intro w0 hSw
        go_simp <;> with_reducible rfl
      try simp only [Act.put, List.getElem_toArray, List.getElem_cons_zero, List.getElem_cons_succ, List.setIfInBounds_toArray, List.set_cons_zero, List.set_cons_succ]
      refine wpAnyH_done (by kernel_rfl) ?_ 0
      go_wp2_with fail
      go_ret2
      refine ⟨.inr ⟨HA.out, pv, cv, rfl, HST.out.below (Below.drewN (Below.refl _ _) _), ?_⟩, HBX.out.trans (Below.drewN (Below.refl _ _) _)⟩
      intro j e
      have := HOV.out j e
      omega
set_option maxRecDepth 100000 in
set_option maxHeartbeats 6400000 in
theorem textsRef_any (x : Item) (m : Nat) (p : Option Addr) (c : Nat) (w : World) (hr : Reads w w.heap.size (.slice p x.list.length c) x.list) (hl : x.list.length ≤ 1099511627775) : Calls Tryd.prog 47 #[.agg #[.bool x.isList, .string (bytesT x), .slice p x.list.length c], .int .i64 (m : Int)] w fun e w' =>
    e = .returned (.bool (x.isList && (decide (x.list.length = m) && allText x.list))) ∧ Below w.heap.size w w' := by
  have HR := Lib.hid hr
  obtain ⟨l, hxl⟩ : ∃ l, x.list = l := ⟨_, rfl⟩
  rw [hxl] at HR hl ⊢
  obtain ⟨n, hn⟩ : ∃ n, l.length = n := ⟨_, rfl⟩
  rw [hn] at HR hl ⊢
  obtain ⟨ib, hib⟩ : ∃ v, x.isList = v := ⟨_, rfl⟩
  obtain ⟨tx, htx⟩ : ∃ v, bytesT x = v := ⟨_, rfl⟩
  rw [hib, htx]
  have HN := Lib.hid hn
  have HB0 := Lib.hid (laid1 w (.cells #[.bool ib, .string tx, .slice p n c] 51))
  have HTX := Lib.hid (allText_split l)
  clear hr hxl hn hib htx
  cases ib with
  | false =>
    go_enter Tryd.func47, Tryd.ntmps47
    go_wp2
    go_ret
    exact ⟨rfl, HB0.out⟩
  | true =>
    by_cases hnm : n = m
    · subst hnm
      have e0 : ((n : Int) = (n : Int)) = True := eq_self _
      obtain ⟨r, hrr⟩ : ∃ r, (true && (decide (n = n) && allText l)) = r := ⟨_, rfl⟩
      rw [hrr]
      have HRR := Lib.hid hrr
      clear hrr
      go_enter Tryd.func47, Tryd.ntmps47
      go_wp2_with fail
      obtain ⟨w0, hw0⟩ : ∃ w0, w.alloc (.cells #[.bool true, .string tx, .slice p n c] 51) = w0 := ⟨_, rfl⟩
      have hz0 : w.heap.size + 1 ≤ w0.heap.size := by rw [← hw0]; simp
      have HZ := Lib.hid (fun W (hb : Below w0.heap.size w0 W) => cells_three (w := w) (W := W) (v0 := .bool true) (v1 := .string tx) (v2 := .slice p n c) (t := 51) (by rw [hw0]; exact hb))
      rw [hw0] at HB0 ⊢
      clear hw0
      go_loopw [4, 5] (fun r4 i wr => r4 = .bool false ∧ ∃ k : Nat, k ≤ n ∧ i = .int .i64 k ∧ Aside (∀ j y, j < k → l[j]? = some y → y.isList = false) ∧ wr = w0) (fun _ i _ => n - (RowKit.intOf i).toNat)
      case atStart => exact ⟨rfl, 0, Nat.zero_le _, rfl, fun j y h => by omega, rfl⟩
      case round =>
        obtain ⟨rfl, k, hk, rfl, HF, rfl⟩ := hrel
        obtain ⟨z0, z1, z2⟩ := HZ.out wr (Below.refl _ _)
        have g1 : (0 : Int) ≤ k := by omega
        by_cases hlt : k < n
        · obtain ⟨y, hy⟩ : ∃ y, l[k]? = some y := ⟨_, List.getElem?_eq_getElem (by rw [HN.out]; exact hlt)⟩
          obtain ⟨hnn, g, o, rfl, hg, hat⟩ := Reads.at HR.out (by omega)
          clear hnn
          obtain ⟨h0, h1, _⟩ := hat k y hy
          have c0 : wr.cell? ⟨g, o + k * 3, none⟩ = some (.bool y.isList) := (HB0.out.cell (p := ⟨g, o + k * 3, none⟩) hg).trans h0
          have g2 : (k : Int) < n := by omega
          have HY := Lib.hid hy
          have hf := HF.out
          clear hat h0 h1 hy
          cases hyl : y.isList with
          | true =>
            rw [hyl] at c0
            have HYL := Lib.hid hyl
            have HFF := Lib.hid hf
            clear hyl hf HF
            go_wp2_with fail
            go_ret
            refine ⟨?_, HB0.out⟩
            rcases HTX.out with ⟨h1, h3⟩ | ⟨h1, _⟩
            · have := h3 y (List.mem_of_getElem? HY.out)
              rw [HYL.out] at this; cases this
            · rw [← HRR.out, h1]; simp
          | false =>
            rw [hyl] at c0
            have hf2 : ∀ j z, j < k + 1 → l[j]? = some z → z.isList = false := fun j z hj hz => by
              by_cases h : j = k
              · subst h; rw [HY.out] at hz; cases hz; exact hyl
              · exact hf j z (by omega) hz
            have HF2 := Lib.hid hf2
            clear hyl hf HF hf2
            go_wp2_with fail
            go_roundw
            case rel => exact ⟨rfl, k + 1, by omega, by go_num, HF2.out, True.intro⟩
            case measure => simp [RowKit.intOf]; omega
        · have hkn : k = n := by omega
          have g2 : ¬ ((k : Int) < n) := by omega
          have hall : allText l = true := by
            rcases HTX.out with ⟨h1, _⟩ | ⟨_, y, h2, h3⟩
            · exact h1
            · obtain ⟨j, hj⟩ := List.getElem?_of_mem h2
              have := HF.out j y (by have := (List.getElem?_eq_some_iff.1 hj).1; rw [HN.out] at this; omega) hj
              rw [h3] at this; cases this
          have HA := Lib.hid hall
          clear HF hall
          go_wp2_with fail
          go_ret
          exact ⟨by rw [← HRR.out, HA.out]; simp, HB0.out⟩
    · have e0 : ¬ ((n : Int) = (m : Int)) := by omega
      have HNM := Lib.hid hnm
      clear hnm
      go_enter Tryd.func47, Tryd.ntmps47
      go_wp2
      go_ret
      exact ⟨by rw [decide_eq_false HNM.out]; rfl, HB0.out⟩
theorem decode_zero {s : List UInt8} {x : Item} {n : Int} (h : decode s = (x, n)) (hn : n ≠ 0) : x = Item.none := by
  rcases decode_cases s with ⟨y, e⟩ | e | e | e
  · have e2 := e.symm.trans h
    cases e2; exact absurd rfl hn
  all_goals
    have e2 := e.symm.trans h
    cases e2; rfl
theorem put_child {l : List Item} {y : Item} (hy : y ∈ l) : (put y).length ≤ (putAll l).length := by
  obtain ⟨k, hk⟩ := List.getElem?_of_mem hy
  have h1 := putAll_take hk
  have h2 := putAll_take_le l (k + 1)
  rw [h1, List.length_append] at h2
  omega
theorem putText_pos (t : List UInt8) : 1 ≤ (putText t).length := by
  unfold putText
  split
  · rename_i h; omega
  · have := framed_le t 128; omega
theorem put_pos (y : Item) : 1 ≤ (put y).length := by
  cases hl : y.isList with
  | true => rw [put_list hl]; have := framed_le (putAll y.list) 192; omega
  | false => rw [put_text hl]; exact putText_pos _
theorem text_put {y : Item} (h : wrong y = false) : y.text.length ≤ (put y).length := by
  cases hl : y.isList with
  | true =>
    rw [(wrong_lst h hl).1]
    simp [Item.text]
  | false =>
    rw [put_text hl]
    exact putText_ge _
theorem decode_child {s : List UInt8} {x : Item} {n : Int} (h : decode s = (x, n)) {y : Item} (hy : y ∈ x.list) : wrong y = false ∧ (put y).length ≤ 65536 ∧ y.text.length ≤ 65536 := by
  by_cases hn : n = 0
  · subst hn
    obtain ⟨h1, h2, h3, h4⟩ := encode_ok (encode_decode h)
    cases hl : x.isList with
    | true =>
      obtain ⟨e, hw⟩ := wrong_lst h2 hl
      have hwy := wrongs_mem hw hy
      have h5 := put_child hy
      have h6 : (putAll x.list).length < (put x).length := by rw [put_list hl]; exact framed_le _ _
      have h7 := text_put hwy
      rw [h1] at h4
      exact ⟨hwy, by omega, by omega⟩
    | false =>
      have e := wrong_txt h2 hl
      rw [e] at hy
      cases hy
  · have e := decode_zero h hn
    subst e
    cases hy
theorem decode_list_len {s : List UInt8} {x : Item} {n : Int} (h : decode s = (x, n)) : x.list.length ≤ 65536 := by
  by_cases hn : n = 0
  · subst hn
    obtain ⟨h1, h2, h3, h4⟩ := encode_ok (encode_decode h)
    cases hl : x.isList with
    | true =>
      have h6 : (putAll x.list).length < (put x).length := by rw [put_list hl]; exact framed_le _ _
      have h8 : ∀ l : List Item, l.length ≤ (putAll l).length := fun l => by
        induction l with
        | nil => simp
        | cons a r ih =>
          have := put_pos a
          rw [putAll, List.length_append, List.length_cons]
          omega
      have := h8 x.list
      rw [h1] at h4
      omega
    | false =>
      have e := wrong_txt h2 hl
      rw [e]
      simp [textItem, Item.list]
  · have e := decode_zero h hn
    subst e
    simp [Item.none, Item.list]
theorem valueA_lit (s : ByteArray) {v : Value} (h : valueV s.data.toList = v) (w : World) : Calls Tryd.prog 41 #[.string s] w fun e w' => e = .returned v ∧ w' = w := by
  rw [← h]; exact value_any s w
theorem valueRefA_lit (s : ByteArray) {v : Value} (h : valueV s.data.toList = v) (w : World) : Calls Tryd.prog 43 #[.string s] w fun e w' => e = .returned v ∧ w' = w := by
  rw [← h]; exact valueRef_any s w
end Go.Proofs.YtmjblnhnadffmaaDoor
