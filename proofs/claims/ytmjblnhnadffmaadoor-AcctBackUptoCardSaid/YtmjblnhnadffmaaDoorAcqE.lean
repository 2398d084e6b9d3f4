/- Contracts of acct.texts and of the reference's texts. -/
import Derived.Test.YtmjblnhnadffmaaDoorAcqP
import Derived.Deep.RegionHeld3
import Derived.Test.YtmjblnhnadffmaaDoorKrcC
import Derived.Test.YtmjblnhnadffmaaDoorAccF
namespace Go.Proofs.YtmjblnhnadffmaaDoor
open Go.RowKit Go.Shelf Go.Lib
attribute [local go_sem] Oper.semAt_some

theorem OwnS.allocQ {base : Nat} {w : World} {v : Value} {l : List ByteArray} (h : OwnS base w v l) (o : Obj) : OwnS base (w.alloc o) v l := h.of_block (fun k e => Below.heap_alloc _ _ _ (h.lt k e).2)
theorem cells_three {w W : World} {v0 v1 v2 : Value} {t : TypeId} (hb : Below (w.alloc (.cells #[v0, v1, v2] t)).heap.size (w.alloc (.cells #[v0, v1, v2] t)) W) : W.cell? ⟨w.heap.size, 0, none⟩ = some v0 ∧ W.cell? ⟨w.heap.size, 1, none⟩ = some v1 ∧ W.cell? ⟨w.heap.size, 2, none⟩ = some v2 := by
  have hc := cells_at w [v0, v1, v2] t
  exact ⟨(hb.cell (p := ⟨w.heap.size, 0, none⟩) (by simp)).trans (hc 0 _ rfl), (hb.cell (p := ⟨w.heap.size, 1, none⟩) (by simp)).trans (hc 1 _ rfl), (hb.cell (p := ⟨w.heap.size, 2, none⟩) (by simp)).trans (hc 2 _ rfl)⟩
theorem allText_split (l : List Item) : (allText l = true ∧ ∀ y ∈ l, y.isList = false) ∨ (allText l = false ∧ ∃ y ∈ l, y.isList = true) := by
  unfold allText
  cases h : l.all fun y => !y.isList with
  | true =>
    refine .inl ⟨rfl, fun y hy => ?_⟩
    simpa using List.all_eq_true.1 h y hy
  | false =>
    obtain ⟨y, h1, h2⟩ := List.all_eq_false.1 h
    exact .inr ⟨rfl, y, h1, by simpa using h2⟩
set_option maxRecDepth 100000 in
set_option maxHeartbeats 6400000 in
theorem texts_any (x : Item) (p : Option Addr) (c : Nat) (w : World) (hr : Reads w w.heap.size (.slice p x.list.length c) x.list) (hl : x.list.length ≤ 1099511627775) : Calls Tryd.prog 46 #[.agg #[.bool x.isList, .string (bytesT x), .slice p x.list.length c]] w fun e w' =>
    ((allText x.list = false ∧ e = .returned (.tuple #[.slice none 0 0, .bool false])) ∨ (allText x.list = true ∧ ∃ p c, e = .returned (.tuple #[.slice p x.list.length c, .bool x.isList]) ∧ Strs w' (.slice p x.list.length c) (x.list.map bytesT) ∧ ∀ j, (Value.slice p x.list.length c).ownBlock = some j → w.heap.size ≤ j)) ∧ Below w.heap.size w w' := by
  have HR := Lib.hid hr
  obtain ⟨l, hxl⟩ : ∃ l, x.list = l := ⟨_, rfl⟩
  rw [hxl] at HR hl ⊢
  obtain ⟨n, hn⟩ : ∃ n, l.length = n := ⟨_, rfl⟩
  rw [hn] at HR hl ⊢
  obtain ⟨ib, hib⟩ : ∃ v, x.isList = v := ⟨_, rfl⟩
  obtain ⟨tx, htx⟩ : ∃ v, bytesT x = v := ⟨_, rfl⟩
  rw [hib, htx]
  have HN := Lib.hid hn
  have HB0 := Lib.hid (laid1 w (.cells #[.bool ib, .string tx, .slice p n c] 51))
  have HTX := Lib.hid (allText_split l)
  clear hr hxl hn hib htx
  go_enter Tryd.func46, Tryd.ntmps46
  go_wp2_with fail
  obtain ⟨w0, hw0⟩ : ∃ w0, w.alloc (.cells #[.bool ib, .string tx, .slice p n c] 51) = w0 := ⟨_, rfl⟩
  have hz0 : w.heap.size + 1 ≤ w0.heap.size := by rw [← hw0]; simp
  have HZ := Lib.hid (fun W (hb : Below w0.heap.size w0 W) => cells_three (w := w) (W := W) (v0 := .bool ib) (v1 := .string tx) (v2 := .slice p n c) (t := 51) (by rw [hw0]; exact hb))
  rw [hw0] at HB0 ⊢
  clear hw0
  go_loopw [2, 3, 4, 6, 10] (fun r2 r3 v _ i wr => r2 = .slice none 0 0 ∧ r3 = .bool false ∧ ∃ k : Nat, k ≤ n ∧ i = .int .i64 k ∧ Aside (∀ j y, j < k → l[j]? = some y → y.isList = false) ∧ Aside (OwnS w0.heap.size wr v ((l.take k).map bytesT)) ∧ Aside (Below w0.heap.size w0 wr)) (fun _ _ _ _ i _ => n - (RowKit.intOf i).toNat)
  case atStart => exact ⟨rfl, rfl, 0, Nat.zero_le _, rfl, fun j y h => by omega, OwnS.nil _ _, Below.refl _ _⟩
  case round =>
    obtain ⟨rfl, rfl, k, hk, rfl, HF, HO, HB⟩ := hrel
    obtain ⟨z0, z1, z2⟩ := HZ.out wr HB.out
    have g1 : (0 : Int) ≤ k := by omega
    by_cases hlt : k < n
    · obtain ⟨y, hy⟩ : ∃ y, l[k]? = some y := ⟨_, List.getElem?_eq_getElem (by rw [HN.out]; exact hlt)⟩
      obtain ⟨hnn, g, o, rfl, hg, hat⟩ := Reads.at HR.out (by omega)
      clear hnn
      obtain ⟨h0, h1, v', h2, _⟩ := hat k y hy
      have hbw : Below w.heap.size w wr := HB0.out.trans (HB.out.mono (by omega))
      have c0 : wr.cell? ⟨g, o + k * 3, none⟩ = some (.bool y.isList) := (hbw.cell (p := ⟨g, o + k * 3, none⟩) hg).trans h0
      have c1 : wr.cell? ⟨g, o + k * 3 + 1, none⟩ = some (.string (bytesT y)) := (hbw.cell (p := ⟨g, o + k * 3 + 1, none⟩) hg).trans h1
      have c2 : wr.cell? ⟨g, o + k * 3 + 2, none⟩ = some v' := (hbw.cell (p := ⟨g, o + k * 3 + 2, none⟩) hg).trans h2
      have hv1 : ∃ q1 m1 n1, v' = .slice q1 m1 n1 := by
        obtain ⟨_, _, v2, h2', h5⟩ := hat k y hy
        rw [h2'] at h2
        cases h2
        obtain ⟨q1, n1, e⟩ := h5.form
        exact ⟨q1, _, n1, e⟩
      obtain ⟨q1, m1, n1, rfl⟩ := hv1
      have g2 : (k : Int) < n := by omega
      have HY := Lib.hid hy
      have hf := HF.out
      have ho := HO.out
      have hb := HB.out
      clear hat h0 h1 h2 hbw hy z0 z1 z2
      cases hyl : y.isList with
      | true =>
        rw [hyl] at c0
        have HYL := Lib.hid hyl
        have hbx : Below w.heap.size w wr := HB0.out.trans (hb.mono (by omega))
        have HBX := Lib.hid (hbx.alloc hbx.size (.cells #[.bool true, .string (bytesT y), .slice q1 m1 n1] 51))
        clear hyl hf ho hb HF HO HB hbx
        go_wp2_with fail
        go_ret2
        refine ⟨.inl ⟨?_, rfl⟩, HBX.out⟩
        rcases HTX.out with ⟨h1, h3⟩ | ⟨h1, _⟩
        · have := h3 y (List.mem_of_getElem? HY.out)
          rw [HYL.out] at this; cases this
        · exact h1
      | false =>
        rw [hyl] at c0
        have hts : (l.take (k + 1)).map bytesT = (l.take k).map bytesT ++ [bytesT y] := by rw [List.take_add_one, HY.out]; simp
        have hll : ((l.take k).map bytesT).length = k := by rw [List.length_map, List.length_take, HN.out]; omega
        obtain ⟨L, hL⟩ : ∃ L, (l.take k).map bytesT = L := ⟨_, rfl⟩
        rw [hL] at hts hll ho
        obtain ⟨pv, cv, hv⟩ := ho.form
        rw [hll] at hv
        subst hv
        have hf2 : ∀ j z, j < k + 1 → l[j]? = some z → z.isList = false := fun j z hj hz => by
          by_cases h : j = k
          · subst h; rw [HY.out] at hz; cases hz; exact hyl
          · exact hf j z (by omega) hz
        obtain ⟨wa, hwa⟩ : ∃ W, wr.alloc (.cells #[.bool false, .string (bytesT y), .slice q1 m1 n1] 51) = W := ⟨_, rfl⟩
        have ho1 : OwnS w0.heap.size wa (.slice pv k cv) L := by rw [← hwa]; exact ho.allocQ _
        have hb1 : Below w0.heap.size w0 wa := by rw [← hwa]; exact hb.alloc hb.size _
        have hza : wr.heap.size + 1 = wa.heap.size := by rw [← hwa]; simp
        have z1 : wa.cell? ⟨wr.heap.size, 0, none⟩ = some (.bool false) := by rw [← hwa]; exact (cells_three (Below.refl _ _)).1
        have z2 : wa.cell? ⟨wr.heap.size, 1, none⟩ = some (.string (bytesT y)) := by rw [← hwa]; exact (cells_three (Below.refl _ _)).2.1
        have HF2 := Lib.hid hf2
        have HTS := Lib.hid hts
        have HLL := Lib.hid hll
        have HO1 := Lib.hid ho1
        have HB1 := Lib.hid hb1
        have HZA := Lib.hid hza
        have HWA := Lib.hid hwa
        clear hyl hf ho hb HF HO HB hts hll hL hf2 ho1 hb1 hza hwa z1 z2
        go_wp2_with (at_builtin; refine wpList_appendT rfl _ _ 62 rfl w0.heap.size Tryd.underlying62 infoStr _ L rfl ((HWA.out ▸ HO1.out : OwnS _ (wr.alloc _) _ _).allocQ _) ⟨wr.heap.size + 1, 0, none⟩ 1 (bytesT y) rfl ?d0 ?d1 ?d2 ?_)
        case d0 =>
          have h := cells_new (wr.alloc (.cells #[.bool false, .string (bytesT y), .slice q1 m1 n1] 51)) [.string (bytesT y)] 9 0 _ rfl
          simpa using h
        case d1 => rw [HLL.out]; omega
        case d2 => have := HB1.out.size; have := HZA.out; simp; omega
        intro v3 w3 ho3 hg3
        rw [HWA.out] at hg3
        have hb3 : Below w0.heap.size w0 w3 := (HB1.out.alloc HB1.out.size _).grown hg3 (by have := HB1.out.size; simp; omega) (fun r e => (HO1.out.lt r e).1)
        rw [← HTS.out] at ho3
        have HO3 := Lib.hid ho3
        have HB3 := Lib.hid hb3
        clear ho3 hg3 hb3 HO1 HB1 c0 c1 c2
        go_wp2_with fail
        go_roundw
        case rel => exact ⟨rfl, rfl, k + 1, by omega, by go_num, HF2.out, HO3.out, HB3.out⟩
        case measure => simp [RowKit.intOf]; omega
    · have hkn : k = n := by omega
      have g2 : ¬ ((k : Int) < n) := by omega
      have ho := HO.out
      have hb := HB.out
      have hbx : Below w.heap.size w wr := HB0.out.trans (hb.mono (by omega))
      rw [List.take_of_length_le (by rw [HN.out]; omega)] at ho
      obtain ⟨pv, cv, hv⟩ := ho.form
      have hlm : (l.map bytesT).length = n := by rw [List.length_map, HN.out]
      rw [hlm] at hv
      subst hv
      have hall : allText l = true := by
        rcases HTX.out with ⟨h1, _⟩ | ⟨_, y, h2, h3⟩
        · exact h1
        · obtain ⟨j, hj⟩ := List.getElem?_of_mem h2
          have := HF.out j y (by have := (List.getElem?_eq_some_iff.1 hj).1; rw [HN.out] at this; omega) hj
          rw [h3] at this; cases this
      have HA := Lib.hid hall
      have HST := Lib.hid ho.strs
      have hov := fun j e => (ho.lt j e).1
      have HOV := Lib.hid hov
      clear hov
      have HBX := Lib.hid hbx
      have HZ0 := Lib.hid z0
      clear ho hb HF HO HB hbx hlm hall z1 z0 z2 hkn
      go_wp2_with fail
      refine wp_region_held_drew (S := fun W => W.cell? ⟨w.heap.size, 0, none⟩ = some (.bool ib)) (by kernel_rfl) (HZ0.out) (fun hHeld => ?_)
      refine wpAnyH_take (i := 0) (v := ?_) rfl (by kernel_rfl) (by kernel_rfl) (by kernel_rfl) (fun _ _ _ h => h) (.inl ⟨by rfl, ?_⟩) (by assumption) ?_
      rotate_left 1
      · intro w0 hSw
        go_simp <;> with_reducible rfl
      try simp only [Act.put, List.getElem_toArray, List.getElem_cons_zero, List.setIfInBounds_toArray, List.set_cons_zero, List.set_cons_succ]
      refine wpAnyH_take (i := 1) (v := ?_) rfl (by kernel_rfl) (by kernel_rfl) (by kernel_rfl) (fun _ _ _ h => h) (.inl ⟨by rfl, ?_⟩) (by assumption) ?_
      rotate_left 1
      · intro w0 hSw
        go_simp <;> with_reducible rfl
      try simp only [Act.put, List.getElem_toArray, List.getElem_cons_zero, List.getElem_cons_succ, List.setIfInBounds_toArray, List.set_cons_zero, List.set_cons_succ]
      refine wpAnyH_take (i := 2) (v := ?_) rfl (by kernel_rfl) (by kernel_rfl) (by kernel_rfl) (fun _ _ _ h => h) (.inl ⟨by rfl, ?_⟩) (by assumption) ?_
      rotate_left 1
      · intro w0 hSw
        go_simp <;> with_reducible rfl
      try simp only [Act.put, List.getElem_toArray, List.getElem_cons_zero, List.getElem_cons_succ, List.setIfInBounds_toArray, List.set_cons_zero, List.set_cons_succ]
      refine wpAnyH_take (i := 3) (v := ?_) rfl (by kernel_rfl) (by kernel_rfl) (by kernel_rfl) (fun _ _ _ h => h) (.inl ⟨by rfl, ?_⟩) (by assumption) ?_
      rotate_left 1
      · intro w0 hSw
        go_simp <;> with_reducible rfl
      try simp only [Act.put, List.getElem_toArray, List.getElem_cons_zero, List.getElem_cons_succ, List.setIfInBounds_toArray, List.set_cons_zero, List.set_cons_succ]
      refine wpAnyH_take (i := 4) (v := ?_) rfl (by kernel_rfl) (by kernel_rfl) (by kernel_rfl) (fun _ _ _ h => h) (.inl ⟨by rfl, ?_⟩) (by assumption) ?_
      rotate_left 1
      · intro w0 hSw
        go_simp <;> with_reducible rfl
      try simp only [Act.put, List.getElem_toArray, List.getElem_cons_zero, List.getElem_cons_succ, List.setIfInBounds_toArray, List.set_cons_zero, List.set_cons_succ]
      refine wpAnyH_done (by kernel_rfl) ?_ 0
      go_wp2_with fail
      go_ret2
      refine ⟨.inr ⟨HA.out, pv, cv, rfl, HST.out.below (Below.drewN (Below.refl _ _) _), ?_⟩, HBX.out.trans (Below.drewN (Below.refl _ _) _)⟩
      intro j e
      have := HOV.out j e
      omega
set_option maxRecDepth 100000 in
set_option maxHeartbeats 6400000 in
theorem textsRef_any (x : Item) (m : Nat) (p : Option Addr) (c : Nat) (w : World) (hr : Reads w w.heap.size (.slice p x.list.length c) x.list) (hl : x.list.length ≤ 1099511627775) : Calls Tryd.prog 47 #[.agg #[.bool x.isList, .string (bytesT x), .slice p x.list.length c], .int .i64 (m : Int)] w fun e w' =>
    e = .returned (.bool (x.isList && (decide (x.list.length = m) && allText x.list))) ∧ Below w.heap.size w w' := by
  have HR := Lib.hid hr
  obtain ⟨l, hxl⟩ : ∃ l, x.list = l := ⟨_, rfl⟩
  rw [hxl] at HR hl ⊢
  obtain ⟨n, hn⟩ : ∃ n, l.length = n := ⟨_, rfl⟩
  rw [hn] at HR hl ⊢
  obtain ⟨ib, hib⟩ : ∃ v, x.isList = v := ⟨_, rfl⟩
  obtain ⟨tx, htx⟩ : ∃ v, bytesT x = v := ⟨_, rfl⟩
  rw [hib, htx]
  have HN := Lib.hid hn
  have HB0 := Lib.hid (laid1 w (.cells #[.bool ib, .string tx, .slice p n c] 51))
  have HTX := Lib.hid (allText_split l)
  clear hr hxl hn hib htx
  cases ib with
  | false =>
    go_enter Tryd.func47, Tryd.ntmps47
    go_wp2
    go_ret
    exact ⟨rfl, HB0.out⟩
  | true =>
    by_cases hnm : n = m
    · subst hnm
      have e0 : ((n : Int) = (n : Int)) = True := eq_self _
      obtain ⟨r, hrr⟩ : ∃ r, (true && (decide (n = n) && allText l)) = r := ⟨_, rfl⟩
      rw [hrr]
      have HRR := Lib.hid hrr
      clear hrr
      go_enter Tryd.func47, Tryd.ntmps47
      go_wp2_with fail
      obtain ⟨w0, hw0⟩ : ∃ w0, w.alloc (.cells #[.bool true, .string tx, .slice p n c] 51) = w0 := ⟨_, rfl⟩
      have hz0 : w.heap.size + 1 ≤ w0.heap.size := by rw [← hw0]; simp
      have HZ := Lib.hid (fun W (hb : Below w0.heap.size w0 W) => cells_three (w := w) (W := W) (v0 := .bool true) (v1 := .string tx) (v2 := .slice p n c) (t := 51) (by rw [hw0]; exact hb))
      rw [hw0] at HB0 ⊢
      clear hw0
      go_loopw [4, 5] (fun r4 i wr => r4 = .bool false ∧ ∃ k : Nat, k ≤ n ∧ i = .int .i64 k ∧ Aside (∀ j y, j < k → l[j]? = some y → y.isList = false) ∧ wr = w0) (fun _ i _ => n - (RowKit.intOf i).toNat)
      case atStart => exact ⟨rfl, 0, Nat.zero_le _, rfl, fun j y h => by omega, rfl⟩
      case round =>
        obtain ⟨rfl, k, hk, rfl, HF, rfl⟩ := hrel
        obtain ⟨z0, z1, z2⟩ := HZ.out wr (Below.refl _ _)
        have g1 : (0 : Int) ≤ k := by omega
        by_cases hlt : k < n
        · obtain ⟨y, hy⟩ : ∃ y, l[k]? = some y := ⟨_, List.getElem?_eq_getElem (by rw [HN.out]; exact hlt)⟩
          obtain ⟨hnn, g, o, rfl, hg, hat⟩ := Reads.at HR.out (by omega)
          clear hnn
          obtain ⟨h0, h1, _⟩ := hat k y hy
          have c0 : wr.cell? ⟨g, o + k * 3, none⟩ = some (.bool y.isList) := (HB0.out.cell (p := ⟨g, o + k * 3, none⟩) hg).trans h0
          have g2 : (k : Int) < n := by omega
          have HY := Lib.hid hy
          have hf := HF.out
          clear hat h0 h1 hy
          cases hyl : y.isList with
          | true =>
            rw [hyl] at c0
            have HYL := Lib.hid hyl
            have HFF := Lib.hid hf
            clear hyl hf HF
            go_wp2_with fail
            go_ret
            refine ⟨?_, HB0.out⟩
            rcases HTX.out with ⟨h1, h3⟩ | ⟨h1, _⟩
            · have := h3 y (List.mem_of_getElem? HY.out)
              rw [HYL.out] at this; cases this
            · rw [← HRR.out, h1]; simp
          | false =>
            rw [hyl] at c0
            have hf2 : ∀ j z, j < k + 1 → l[j]? = some z → z.isList = false := fun j z hj hz => by
              by_cases h : j = k
              · subst h; rw [HY.out] at hz; cases hz; exact hyl
              · exact hf j z (by omega) hz
            have HF2 := Lib.hid hf2
            clear hyl hf HF hf2
            go_wp2_with fail
            go_roundw
            case rel => exact ⟨rfl, k + 1, by omega, by go_num, HF2.out, True.intro⟩
            case measure => simp [RowKit.intOf]; omega
        · have hkn : k = n := by omega
          have g2 : ¬ ((k : Int) < n) := by omega
          have hall : allText l = true := by
            rcases HTX.out with ⟨h1, _⟩ | ⟨_, y, h2, h3⟩
            · exact h1
            · obtain ⟨j, hj⟩ := List.getElem?_of_mem h2
              have := HF.out j y (by have := (List.getElem?_eq_some_iff.1 hj).1; rw [HN.out] at this; omega) hj
              rw [h3] at this; cases this
          have HA := Lib.hid hall
          clear HF hall
          go_wp2_with fail
          go_ret
          exact ⟨by rw [← HRR.out, HA.out]; simp, HB0.out⟩
    · have e0 : ¬ ((n : Int) = (m : Int)) := by omega
      have HNM := Lib.hid hnm
      clear hnm
      go_enter Tryd.func47, Tryd.ntmps47
      go_wp2
      go_ret
      exact ⟨by rw [decide_eq_false HNM.out]; rfl, HB0.out⟩
end Go.Proofs.YtmjblnhnadffmaaDoor
/- Contracts of acct.Empty and of the reference's Empty. -/
namespace Go.Proofs.YtmjblnhnadffmaaDoor
open Go.RowKit Go.Shelf Go.Lib
attribute [local go_sem] Oper.semAt_some

theorem KecT.below {w W : World} (h : KecT w) (hb : Below w.heap.size w W) : KecT W := by
  have key : ∀ g i v, w.cell? ⟨g, i, none⟩ = some v → W.cell? ⟨g, i, none⟩ = some v := fun g i v hc =>
    (World.cell?_of_block (hb.block g (World.block_lt_of_cell? w _ hc))).trans hc
  exact ⟨fun t ht => key _ _ _ (h.places t ht), fun t ht => key _ _ _ (h.turns t ht), fun t ht => key _ _ _ (h.consts t ht)⟩
/-- a text's digest, as a text -/
def kecB (l : List UInt8) : ByteArray := ⟨(keccakL l).toArray⟩
theorem limb_nought (i : Nat) : limb 0 i = 0 := by unfold limb; simp
theorem acctV_zero (r c : ByteArray) : acctV 0 0 r c = .agg #[.int .u64 0, .int .u64 0, .int .u64 0, .int .u64 0, .int .u64 0, .string r, .string c] := by
  unfold acctV
  simp only [limb_nought]
  rfl
theorem kecOne_any (sb r : ByteArray) (hr : kecB sb.data.toList = r) (b : Nat) (w : World) (hc : w.cell? ⟨b, 0, none⟩ = some (.string sb)) (hlen : sb.size ≤ 1099511627776) (hK : KecT w) : Calls Tryd.prog 48 #[.slice (some ⟨b, 0, none⟩) 1 1] w fun e w' => e = .returned (.string r) ∧ Below w.heap.size w w' := by
  rw [← hr]
  have hl : lettersOf [sb] = sb.data.toList := by simp [lettersOf]
  have h := kecSum_any (.slice (some ⟨b, 0, none⟩) 1 1) [sb] w ⟨_, _, rfl, Nat.le_refl 1, .inr ⟨b, 0, rfl, World.block_lt_of_cell? w _ hc, fun j x hx => by
    match j, hx with
    | 0, hx => cases hx; exact hc⟩⟩ (by simp) (by rw [hl]; exact hlen) hK
  rw [hl] at h
  exact h
theorem kecNone_any (w : World) (hK : KecT w) : Calls Tryd.prog 48 #[.slice none 0 0] w fun e w' => e = .returned (.string (kecB [])) ∧ Below w.heap.size w w' :=
  kecSum_any (.slice none 0 0) [] w ⟨none, 0, rfl, Nat.le_refl _, .inl rfl⟩ (by decide) (by decide) hK
theorem rkSum_lit2 (sb r : ByteArray) (hr : kecB sb.data.toList = r) (w : World) (hlen : sb.size ≤ 1099511627776) : Calls Tryd.prog 49 #[.string sb] w fun e w' => e = .returned (.string r) ∧ Below w.heap.size w w' := by
  rw [← hr]
  exact rkSum_any sb w hlen
theorem rkSum_lit (sb : ByteArray) (w : World) (hlen : sb.size ≤ 1099511627776) : Calls Tryd.prog 49 #[.string sb] w fun e w' => e = .returned (.string (kecB sb.data.toList)) ∧ Below w.heap.size w w' := rkSum_any sb w hlen
theorem infoAcct : (Tryd.prog.info? 32).map (·.size) = some 7 := by kernel_rfl
/-- an account's cells -/
def acctL (n x0 x1 x2 x3 : Int) (r c : ByteArray) : List Value := [.int .u64 n, .int .u64 x0, .int .u64 x1, .int .u64 x2, .int .u64 x3, .string r, .string c]
theorem acctL_one (n x0 x1 x2 x3 : Int) (r c : ByteArray) : (acctL n x0 x1 x2 x3 r c).toArray.all (·.oneCell') = true := all_oneCell_toArray (fun v hv => by
  unfold acctL at hv
  simp only [List.mem_cons, List.not_mem_nil, or_false] at hv
  rcases hv with rfl | rfl | rfl | rfl | rfl | rfl | rfl <;> rfl)
def acctZ : List Value := [.int .u64 0, .int .u64 0, .int .u64 0, .int .u64 0, .int .u64 0, .string ⟨#[]⟩, .string ⟨#[]⟩]
set_option maxHeartbeats 3200000 in
theorem empty_any (w : World) (hK : KecT w) : Calls Tryd.prog 22 #[] w fun e w' => e = .returned (acctV 0 0 (kecB [128]) (kecB [])) ∧ Below w.heap.size w w' := by
  rw [acctV_zero]
  obtain ⟨r, hr⟩ : ∃ r, kecB [128] = r := ⟨_, rfl⟩
  obtain ⟨c, hc⟩ : ∃ r, kecB [] = r := ⟨_, rfl⟩
  rw [hr, hc]
  have HK := Lib.hid hK
  have HR := Lib.hid hr
  have HCC := Lib.hid hc
  clear hK hr hc
  go_enter Tryd.func22, Tryd.ntmps22
  go_wp2_with fail
  have hb0 : Below w.heap.size w ((w.alloc (.cells #[.int .u64 0, .int .u64 0, .int .u64 0, .int .u64 0, .int .u64 0, .string ⟨#[]⟩, .string ⟨#[]⟩] 32)).alloc (.cells #[.string ⟨#[128]⟩] 9)) := laid2 _ _ _
  refine (kecOne_any ⟨#[128]⟩ r HR.out (w.heap.size + 1) _ ?h0 (by decide) (HK.out.below hb0)).mono ?_
  case h0 => simp
  rintro e w1 ⟨rfl, hb1⟩
  have hc0 : HasCells w1 w.heap.size acctZ 32 := ((HasCells.new w acctZ 32).alloc _).after hb1
  have hbw1 : Below w.heap.size w w1 := hb0.trans (hb1.mono (by simp; omega))
  have H2 := Lib.hid (kecNone_any w1 (HK.out.below hbw1))
  have HC := Lib.hid hc0
  have HB := Lib.hid hbw1
  rw [HCC.out] at H2
  clear hb0 hb1 hc0 hbw1
  go_wp2_with fail
  refine H2.out.mono ?_
  rintro e w2 ⟨rfl, hb2⟩
  have HC2 := Lib.hid (HC.out.after hb2)
  have HB2 := Lib.hid (HB.out.trans (hb2.mono HB.out.size))
  clear hb2 HC HB H2
  obtain ⟨L, hL⟩ : ∃ L : List Value, [.int .u64 0, .int .u64 0, .int .u64 0, .int .u64 0, .int .u64 0, .string r, .string c] = L := ⟨_, rfl⟩
  have HL := Lib.hid hL
  have h1 : L.toArray.all (·.oneCell') = true := by rw [← hL]; exact acctL_one 0 0 0 0 0 r c
  have h2 : L.length = 7 := by rw [← hL]; rfl
  have h3 : spl acctZ 0 L = L := by rw [← hL]; rfl
  have HS := Lib.hid (And.intro h1 (And.intro h2 h3))
  have hL2 : (#[.int .u64 0, .int .u64 0, .int .u64 0, .int .u64 0, .int .u64 0, .string r, .string c] : Array Value) = L.toArray := by rw [← hL]
  have HL2 := Lib.hid hL2
  clear hL h1 h2 h3 hL2
  go_wp2_with ((with_reducible refine store_gateK 32 ?_); refine wpList_store_mid rfl 32 _ _ rfl w.heap.size 0 L.toArray rfl (by rw [← HL2.out]; rfl) (HC2.out.there 0 _ (by rw [List.size_toArray, HS.out.2.1]; decide)) (by rw [List.size_toArray, HS.out.2.1]; exact infoAcct) HS.out.1 ?_)
  have hf := HC2.out.sets L 0
  rw [HS.out.2.2] at hf
  refine bodyPost_ret (v := .agg L.toArray) (results_cells rfl _ _ w.heap.size L _ (by rfl) hf.range Tryd.underlying32 rfl (by rw [HS.out.2.1]; exact infoAcct)) rfl ⟨by rw [HL2.out], ?_⟩
  exact HB2.out.trans (sets_belowK (Nat.le_refl _) _ _ _)
set_option maxHeartbeats 3200000 in
theorem emptyRef_any (w : World) : Calls Tryd.prog 23 #[] w fun e w' => e = .returned (acctV 0 0 (kecB [128]) (kecB [])) ∧ Below w.heap.size w w' := by
  rw [acctV_zero]
  obtain ⟨r, hr⟩ : ∃ r, kecB [128] = r := ⟨_, rfl⟩
  obtain ⟨c, hc⟩ : ∃ r, kecB [] = r := ⟨_, rfl⟩
  rw [hr, hc]
  have HR := Lib.hid hr
  have HCC := Lib.hid hc
  clear hr hc
  go_enter Tryd.func23, Tryd.ntmps23
  go_wp2_with fail
  have hb0 := laid1 w (.cells #[.int .u64 0, .int .u64 0, .int .u64 0, .int .u64 0, .int .u64 0, .string ⟨#[]⟩, .string ⟨#[]⟩] 32)
  refine (rkSum_lit2 ⟨#[128]⟩ r HR.out _ (by decide)).mono ?_
  rintro e w1 ⟨rfl, hb1⟩
  have hc0 : HasCells w1 w.heap.size acctZ 32 := (HasCells.new w acctZ 32).after hb1
  have hbw1 : Below w.heap.size w w1 := hb0.trans (hb1.mono (by simp))
  have H2 := Lib.hid (rkSum_lit2 ⟨#[]⟩ c HCC.out w1 (by decide))
  have HC := Lib.hid hc0
  have HB := Lib.hid hbw1
  clear hb0 hb1 hc0 hbw1
  go_wp2_with fail
  refine H2.out.mono ?_
  rintro e w2 ⟨rfl, hb2⟩
  have HC2 := Lib.hid (HC.out.after hb2)
  have HB2 := Lib.hid (HB.out.trans (hb2.mono HB.out.size))
  clear hb2 HC HB H2
  obtain ⟨L, hL⟩ : ∃ L : List Value, [.int .u64 0, .int .u64 0, .int .u64 0, .int .u64 0, .int .u64 0, .string r, .string c] = L := ⟨_, rfl⟩
  have HL := Lib.hid hL
  have h1 : L.toArray.all (·.oneCell') = true := by rw [← hL]; exact acctL_one 0 0 0 0 0 r c
  have h2 : L.length = 7 := by rw [← hL]; rfl
  have h3 : spl acctZ 0 L = L := by rw [← hL]; rfl
  have HS := Lib.hid (And.intro h1 (And.intro h2 h3))
  have hL2 : (#[.int .u64 0, .int .u64 0, .int .u64 0, .int .u64 0, .int .u64 0, .string r, .string c] : Array Value) = L.toArray := by rw [← hL]
  have HL2 := Lib.hid hL2
  clear hL h1 h2 h3 hL2
  go_wp2_with ((with_reducible refine store_gateK 32 ?_); refine wpList_store_mid rfl 32 _ _ rfl w.heap.size 0 L.toArray rfl (by rw [← HL2.out]; rfl) (HC2.out.there 0 _ (by rw [List.size_toArray, HS.out.2.1]; decide)) (by rw [List.size_toArray, HS.out.2.1]; exact infoAcct) HS.out.1 ?_)
  have hf := HC2.out.sets L 0
  rw [HS.out.2.2] at hf
  refine bodyPost_ret (v := .agg L.toArray) (results_cells rfl _ _ w.heap.size L _ (by rfl) hf.range Tryd.underlying32 rfl (by rw [HS.out.2.1]; exact infoAcct)) rfl ⟨by rw [HL2.out], ?_⟩
  exact HB2.out.trans (sets_belowK (Nat.le_refl _) _ _ _)
end Go.Proofs.YtmjblnhnadffmaaDoor

/- Contract of acct.From. -/
namespace Go.Proofs.YtmjblnhnadffmaaDoor
open Go.RowKit Go.Shelf Go.Lib
attribute [local go_sem] Oper.semAt_some

theorem Item.len_size (x : Item) : x.list.length ≤ x.size := by rw [Item.size_eq]; have := sizeAll_length x.list; omega
theorem decode_zero {s : List UInt8} {x : Item} {n : Int} (h : decode s = (x, n)) (hn : n ≠ 0) : x = Item.none := by
  rcases decode_cases s with ⟨y, e⟩ | e | e | e
  · have e2 := e.symm.trans h
    cases e2; exact absurd rfl hn
  all_goals
    have e2 := e.symm.trans h
    cases e2; rfl
theorem put_child {l : List Item} {y : Item} (hy : y ∈ l) : (put y).length ≤ (putAll l).length := by
  obtain ⟨k, hk⟩ := List.getElem?_of_mem hy
  have h1 := putAll_take hk
  have h2 := putAll_take_le l (k + 1)
  rw [h1, List.length_append] at h2
  omega
theorem putText_pos (t : List UInt8) : 1 ≤ (putText t).length := by
  unfold putText
  split
  · rename_i h; omega
  · have := framed_le t 128; omega
theorem put_pos (y : Item) : 1 ≤ (put y).length := by
  cases hl : y.isList with
  | true => rw [put_list hl]; have := framed_le (putAll y.list) 192; omega
  | false => rw [put_text hl]; exact putText_pos _
theorem text_put {y : Item} (h : wrong y = false) : y.text.length ≤ (put y).length := by
  cases hl : y.isList with
  | true =>
    rw [(wrong_lst h hl).1]
    simp [Item.text]
  | false =>
    rw [put_text hl]
    exact putText_ge _
theorem decode_child {s : List UInt8} {x : Item} {n : Int} (h : decode s = (x, n)) {y : Item} (hy : y ∈ x.list) : wrong y = false ∧ (put y).length ≤ 65536 ∧ y.text.length ≤ 65536 := by
  by_cases hn : n = 0
  · subst hn
    obtain ⟨h1, h2, h3, h4⟩ := encode_ok (encode_decode h)
    cases hl : x.isList with
    | true =>
      obtain ⟨e, hw⟩ := wrong_lst h2 hl
      have hwy := wrongs_mem hw hy
      have h5 := put_child hy
      have h6 : (putAll x.list).length < (put x).length := by rw [put_list hl]; exact framed_le _ _
      have h7 := text_put hwy
      rw [h1] at h4
      exact ⟨hwy, by omega, by omega⟩
    | false =>
      have e := wrong_txt h2 hl
      rw [e] at hy
      cases hy
  · have e := decode_zero h hn
    subst e
    cases hy
theorem decode_list_len {s : List UInt8} {x : Item} {n : Int} (h : decode s = (x, n)) : x.list.length ≤ 65536 := by
  by_cases hn : n = 0
  · subst hn
    obtain ⟨h1, h2, h3, h4⟩ := encode_ok (encode_decode h)
    cases hl : x.isList with
    | true =>
      have h6 : (putAll x.list).length < (put x).length := by rw [put_list hl]; exact framed_le _ _
      have h8 : ∀ l : List Item, l.length ≤ (putAll l).length := fun l => by
        induction l with
        | nil => simp
        | cons a r ih =>
          have := put_pos a
          rw [putAll, List.length_append, List.length_cons]
          omega
      have := h8 x.list
      rw [h1] at h4
      omega
    | false =>
      have e := wrong_txt h2 hl
      rw [e]
      simp [textItem, Item.list]
  · have e := decode_zero h hn
    subst e
    simp [Item.none, Item.list]
theorem aT_len {s : List UInt8} {x : Item} {n : Int} (h : decode s = (x, n)) (i : Nat) : (aT x i).length ≤ 65536 := by
  unfold aT
  rw [List.getD_eq_getElem?_getD]
  cases he : x.list[i]? with
  | none => simp [Item.none, Item.text]
  | some y => exact (decode_child h (List.mem_of_getElem? he)).2.2
/-- is there an account of bytes; which one; else: an error -/
def acctOk (s : List UInt8) : Bool := acctB (decode s).1 (decode s).2
def acctOf (s : List UInt8) : Value := bif acctOk s then acctV (value (aT (decode s).1 0)).1 (wordOf (aT (decode s).1 1)) ⟨(aT (decode s).1 2).toArray⟩ ⟨(aT (decode s).1 3).toArray⟩ else acctV 0 0 ⟨#[]⟩ ⟨#[]⟩
def acctErr (s : List UInt8) : Int := bif acctOk s then 0 else 160
theorem acct_bad {s : List UInt8} {x : Item} {n : Int} (hx : decode s = (x, n)) (h : acctB x n = false) : acctOf s = .agg acctZ.toArray ∧ acctErr s = 160 := by
  have h' : acctOk s = false := by unfold acctOk; rw [hx]; exact h
  unfold acctOf acctErr
  rw [h', acctV_zero]
  exact ⟨rfl, rfl⟩
theorem acct_good {s : List UInt8} {x : Item} {n : Int} (hx : decode s = (x, n)) (h : acctB x n = true) : acctOf s = acctV (value (aT x 0)).1 (wordOf (aT x 1)) ⟨(aT x 2).toArray⟩ ⟨(aT x 3).toArray⟩ ∧ acctErr s = 0 := by
  have h' : acctOk s = true := by unfold acctOk; rw [hx]; exact h
  unfold acctOf acctErr
  rw [h', hx]
  exact ⟨rfl, rfl⟩
theorem valueA_lit (s : ByteArray) {v : Value} (h : valueV s.data.toList = v) (w : World) : Calls Tryd.prog 41 #[.string s] w fun e w' => e = .returned v ∧ w' = w := by
  rw [← h]; exact value_any s w
theorem acctZ_one : acctZ.toArray.all (·.oneCell') = true := acctL_one 0 0 0 0 0 ⟨#[]⟩ ⟨#[]⟩
theorem acctL_len (n x0 x1 x2 x3 : Int) (r c : ByteArray) : (acctL n x0 x1 x2 x3 r c).length = 7 := rfl
theorem acctL_spl (n x0 x1 x2 x3 : Int) (r c : ByteArray) : spl acctZ 0 (acctL n x0 x1 x2 x3 r c) = acctL n x0 x1 x2 x3 r c := rfl
theorem acctL_val {v : Nat} {x0 x1 x2 x3 : Nat} (h : wordV v = .agg #[.int .u64 x0, .int .u64 x1, .int .u64 x2, .int .u64 x3]) (n : Nat) (r c : ByteArray) : (Value.agg (acctL n x0 x1 x2 x3 r c).toArray) = acctV n v r c := by
  unfold wordV at h
  simp only [Value.agg.injEq, Array.mk.injEq, List.cons.injEq, Value.int.injEq, true_and, and_true] at h
  obtain ⟨h0, h1, h2, h3⟩ := h
  unfold acctV acctL
  rw [h0, h1, h2, h3]
set_option maxRecDepth 100000 in
set_option maxHeartbeats 12800000 in
theorem acctFrom_any (s : List UInt8) (w : World) (hs : s.length ≤ 1099511627776) : Calls Tryd.prog 19 #[.string ⟨s.toArray⟩] w fun e w' => e = .returned (.tuple #[acctOf s, .int .i64 (acctErr s)]) ∧ Below w.heap.size w w' := by
  obtain ⟨x, n, hx⟩ : ∃ x n, decode s = (x, n) := ⟨_, _, rfl⟩
  obtain ⟨V, hV⟩ : ∃ V, acctOf s = V := ⟨_, rfl⟩
  obtain ⟨E, hE⟩ : ∃ E, acctErr s = E := ⟨_, rfl⟩
  have HBAD := Lib.hid (fun h : acctB x n = false => hV ▸ hE ▸ acct_bad hx h)
  have HGOOD := Lib.hid (fun h : acctB x n = true => hV ▸ hE ▸ acct_good hx h)
  rw [hV, hE]
  have H1 := Lib.hid (fun W => decode_lit hx hs W)
  have hcase : (n = 40 ∨ n = 41 ∨ n = 42) ∨ n = 0 := by
    rcases decode_cases s with ⟨y, e⟩ | e | e | e <;> (have e2 := e.symm.trans hx; cases e2; simp)
  have hXL : x.list.length ≤ 1099511627775 ∧ ∀ i, i < 4 → (aT x i).length ≤ 1099511627776 := ⟨by have := decode_list_len hx; omega, fun i _ => by have := aT_len hx i; omega⟩
  have HX := Lib.hid hXL
  obtain ⟨m, hm⟩ : ∃ m, x.list.length = m := ⟨_, rfl⟩
  have HM := Lib.hid hm
  clear hV hE hx hXL hm
  go_enter Tryd.func19, Tryd.ntmps19
  go_wp2_with fail
  refine (H1.out _).mono ?_
  rintro e w1 ⟨hb1, p, c, rfl, HR⟩
  have hr1 := HR.out
  have HT := Lib.hid (fun W (hb : Below w1.heap.size w1 W) => texts_any x p c W (hr1.below hb hb.size) HX.out.1)
  have HC1 := Lib.hid ((HasCells.new w acctZ 32).after hb1)
  have HB1 := Lib.hid ((laid1 w (.cells acctZ.toArray 32)).trans (hb1.mono (by simp)))
  unfold bytesT at HT
  obtain ⟨isl, hisl⟩ : ∃ l, x.isList = l := ⟨_, rfl⟩
  obtain ⟨t, htt⟩ : ∃ t, x.text = t := ⟨_, rfl⟩
  rw [hisl, htt] at HT ⊢
  rw [HM.out] at HT ⊢
  have HISL := Lib.hid hisl
  clear hr1 HR hb1 hisl htt H1
  go_wp2_with fail
  have hba := laid1 w1 (.cells #[.bool isl, .string ⟨t.toArray⟩, .slice p m c] 51)
  have HB1S := Lib.hid (show w.heap.size + 1 ≤ w1.heap.size from by have := HC1.out.lt; omega)
  have HB2 := Lib.hid (HB1.out.trans (hba.mono HB1.out.size))
  have HC2 := Lib.hid (HC1.out.alloc (.cells #[.bool isl, .string ⟨t.toArray⟩, .slice p m c] 51))
  refine (HT.out _ hba).mono ?_
  clear hba
  rintro e w3 ⟨⟨hat, rfl⟩ | ⟨hat, p3, c3, rfl, hst, hov⟩, hb3⟩
  · have HB3 := Lib.hid (HB2.out.trans (hb3.mono HB2.out.size))
    have HC3 := Lib.hid (HC2.out.after hb3)
    clear hb3 HB1 HB2 HC1 HC2 HT
    have HAT := Lib.hid hat
    clear hat
    rcases hcase with (rfl | rfl | rfl) | rfl
    · go_wp2_with ((with_reducible refine store_gateK 32 ?_); refine wpList_store_mid rfl 32 _ _ rfl w.heap.size 0 acctZ.toArray rfl rfl (HC3.out.there 0 _ (by decide)) infoAcct acctZ_one ?_)
      have hf := HC3.out.sets acctZ 0
      obtain ⟨e1, e2⟩ := HBAD.out (by unfold acctB acctShape textsB; rw [HAT.out]; simp)
      refine bodyPost_ret (results_cells2 rfl _ _ w.heap.size acctZ _ (by rfl) hf.range Tryd.underlying32 rfl infoAcct) rfl ⟨?_, HB3.out.trans (sets_belowK (Nat.le_refl _) _ _ _)⟩
      rw [e1, e2]
      rfl
    · go_wp2_with ((with_reducible refine store_gateK 32 ?_); refine wpList_store_mid rfl 32 _ _ rfl w.heap.size 0 acctZ.toArray rfl rfl (HC3.out.there 0 _ (by decide)) infoAcct acctZ_one ?_)
      have hf := HC3.out.sets acctZ 0
      obtain ⟨e1, e2⟩ := HBAD.out (by unfold acctB acctShape textsB; rw [HAT.out]; simp)
      refine bodyPost_ret (results_cells2 rfl _ _ w.heap.size acctZ _ (by rfl) hf.range Tryd.underlying32 rfl infoAcct) rfl ⟨?_, HB3.out.trans (sets_belowK (Nat.le_refl _) _ _ _)⟩
      rw [e1, e2]
      rfl
    · go_wp2_with ((with_reducible refine store_gateK 32 ?_); refine wpList_store_mid rfl 32 _ _ rfl w.heap.size 0 acctZ.toArray rfl rfl (HC3.out.there 0 _ (by decide)) infoAcct acctZ_one ?_)
      have hf := HC3.out.sets acctZ 0
      obtain ⟨e1, e2⟩ := HBAD.out (by unfold acctB acctShape textsB; rw [HAT.out]; simp)
      refine bodyPost_ret (results_cells2 rfl _ _ w.heap.size acctZ _ (by rfl) hf.range Tryd.underlying32 rfl infoAcct) rfl ⟨?_, HB3.out.trans (sets_belowK (Nat.le_refl _) _ _ _)⟩
      rw [e1, e2]
      rfl
    · go_wp2_with ((with_reducible refine store_gateK 32 ?_); refine wpList_store_mid rfl 32 _ _ rfl w.heap.size 0 acctZ.toArray rfl rfl (HC3.out.there 0 _ (by decide)) infoAcct acctZ_one ?_)
      have hf := HC3.out.sets acctZ 0
      obtain ⟨e1, e2⟩ := HBAD.out (by unfold acctB acctShape textsB; rw [HAT.out]; simp)
      refine bodyPost_ret (results_cells2 rfl _ _ w.heap.size acctZ _ (by rfl) hf.range Tryd.underlying32 rfl infoAcct) rfl ⟨?_, HB3.out.trans (sets_belowK (Nat.le_refl _) _ _ _)⟩
      rw [e1, e2]
      rfl
  · have HB3 := Lib.hid (HB2.out.trans (hb3.mono HB2.out.size))
    have HC3 := Lib.hid (HC2.out.after hb3)
    clear hb3 HB1 HB2 HC1 HC2 HT
    have HAT := Lib.hid hat
    have HST := Lib.hid hst
    have HOV := Lib.hid hov
    clear hat hst hov
    rcases hcase with hcase | rfl
    · rcases hcase with rfl | rfl | rfl
      · go_wp2_with ((with_reducible refine store_gateK 32 ?_); refine wpList_store_mid rfl 32 _ _ rfl w.heap.size 0 acctZ.toArray rfl rfl (HC3.out.there 0 _ (by decide)) infoAcct acctZ_one ?_)
        have hf := HC3.out.sets acctZ 0
        obtain ⟨e1, e2⟩ := HBAD.out (by unfold acctB acctShape; simp)
        refine bodyPost_ret (results_cells2 rfl _ _ w.heap.size acctZ _ (by rfl) hf.range Tryd.underlying32 rfl infoAcct) rfl ⟨?_, HB3.out.trans (sets_belowK (Nat.le_refl _) _ _ _)⟩
        rw [e1, e2]
        rfl
      · go_wp2_with ((with_reducible refine store_gateK 32 ?_); refine wpList_store_mid rfl 32 _ _ rfl w.heap.size 0 acctZ.toArray rfl rfl (HC3.out.there 0 _ (by decide)) infoAcct acctZ_one ?_)
        have hf := HC3.out.sets acctZ 0
        obtain ⟨e1, e2⟩ := HBAD.out (by unfold acctB acctShape; simp)
        refine bodyPost_ret (results_cells2 rfl _ _ w.heap.size acctZ _ (by rfl) hf.range Tryd.underlying32 rfl infoAcct) rfl ⟨?_, HB3.out.trans (sets_belowK (Nat.le_refl _) _ _ _)⟩
        rw [e1, e2]
        rfl
      · go_wp2_with ((with_reducible refine store_gateK 32 ?_); refine wpList_store_mid rfl 32 _ _ rfl w.heap.size 0 acctZ.toArray rfl rfl (HC3.out.there 0 _ (by decide)) infoAcct acctZ_one ?_)
        have hf := HC3.out.sets acctZ 0
        obtain ⟨e1, e2⟩ := HBAD.out (by unfold acctB acctShape; simp)
        refine bodyPost_ret (results_cells2 rfl _ _ w.heap.size acctZ _ (by rfl) hf.range Tryd.underlying32 rfl infoAcct) rfl ⟨?_, HB3.out.trans (sets_belowK (Nat.le_refl _) _ _ _)⟩
        rw [e1, e2]
        rfl
    · cases isl with
      | false =>
        go_wp2_with ((with_reducible refine store_gateK 32 ?_); refine wpList_store_mid rfl 32 _ _ rfl w.heap.size 0 acctZ.toArray rfl rfl (HC3.out.there 0 _ (by decide)) infoAcct acctZ_one ?_)
        have hf := HC3.out.sets acctZ 0
        obtain ⟨e1, e2⟩ := HBAD.out (by unfold acctB acctShape textsB; rw [HISL.out]; simp)
        refine bodyPost_ret (results_cells2 rfl _ _ w.heap.size acctZ _ (by rfl) hf.range Tryd.underlying32 rfl infoAcct) rfl ⟨?_, HB3.out.trans (sets_belowK (Nat.le_refl _) _ _ _)⟩
        rw [e1, e2]
        rfl
      | true =>
        by_cases h4 : m = 4
        · subst h4
          obtain ⟨-, bk, o, rfl, hbk, hat⟩ := Strs.at HST.out (by decide)
          have hel : ∀ j, j < 4 → (x.list.map bytesT)[j]? = some ⟨(aT x j).toArray⟩ := fun j hj => by
            have h : j < x.list.length := by rw [HM.out]; exact hj
            rw [List.getElem?_map, List.getElem?_eq_getElem h]
            unfold aT bytesT
            rw [List.getD_eq_getElem?_getD, List.getElem?_eq_getElem h]
            rfl
          have HOB := Lib.hid (show w1.heap.size + 1 ≤ bk from by simpa using HOV.out bk rfl)
          obtain ⟨t0, ht0⟩ : ∃ t, aT x 0 = t := ⟨_, rfl⟩
          obtain ⟨t1, ht1⟩ : ∃ t, aT x 1 = t := ⟨_, rfl⟩
          obtain ⟨r2, hr2⟩ : ∃ r : ByteArray, ⟨(aT x 2).toArray⟩ = r := ⟨_, rfl⟩
          obtain ⟨r3, hr3⟩ : ∃ r : ByteArray, ⟨(aT x 3).toArray⟩ = r := ⟨_, rfl⟩
          have c0 := hat 0 _ (hel 0 (by decide))
          have c1 := hat 1 _ (hel 1 (by decide))
          have c2 := hat 2 _ (hel 2 (by decide))
          have c3 := hat 3 _ (hel 3 (by decide))
          rw [ht0] at c0
          simp only [Nat.add_zero] at c0
          rw [ht1] at c1
          rw [hr2] at c2
          rw [hr3] at c3
          have s2 : (aT x 2).length = r2.size := by rw [← hr2]; rfl
          have s3 : (aT x 3).length = r3.size := by rw [← hr3]; rfl
          obtain ⟨b, hb⟩ : ∃ b, isShortW t1 = b := ⟨_, rfl⟩
          obtain ⟨v, hv⟩ : ∃ v, wordOf t1 = v := ⟨_, rfl⟩
          have HW := Lib.hid (fun W => wordFrom_lit hv (by rw [← ht1]; exact HX.out.2 1 (by decide)) W)
          have HSH := Lib.hid (fun W => isShort_lit hb W)
          obtain ⟨x0, x1, x2, x3, hw, -⟩ := wordV_form v
          rw [hw] at HW
          obtain ⟨nv, ev, hve⟩ : ∃ a b, value t0 = (a, b) := ⟨_, _, rfl⟩
          have hvv : valueV t0 = .tuple #[.int .u64 nv, .int .i64 ev] := by unfold valueV; rw [hve]
          have HVV := Lib.hid (fun W => valueA_lit ⟨t0.toArray⟩ hvv W)
          have hnums : acctB x 0 = (decide (ev = 0) && (b && (decide (r2.size = 32) && decide (r3.size = 32)))) := by
            unfold acctB acctShape textsB acctNums
            rw [HAT.out, HISL.out, HM.out, ht0, ht1, hve, hb, s2, s3]
            simp
          have HNUMS := Lib.hid hnums
          have hgood : acctB x 0 = true → V = .agg (acctL nv x0 x1 x2 x3 r2 r3).toArray ∧ E = 0 := fun h => by
            obtain ⟨e1, e2⟩ := HGOOD.out h
            rw [ht0, ht1, hve, hv, hr2, hr3] at e1
            exact ⟨by rw [e1]; exact (acctL_val hw nv r2 r3).symm, e2⟩
          have HG := Lib.hid hgood
          have HBK := Lib.hid hbk
          have HCS := Lib.hid (fun W (hb : Below w3.heap.size w3 W) => (show W.cell? ⟨bk, o + 1, none⟩ = some (.string ⟨t1.toArray⟩) ∧ W.cell? ⟨bk, o + 2, none⟩ = some (.string r2) ∧ W.cell? ⟨bk, o + 3, none⟩ = some (.string r3) from ⟨(hb.cell (p := ⟨bk, o + 1, none⟩) HBK.out).trans c1, (hb.cell (p := ⟨bk, o + 2, none⟩) HBK.out).trans c2, (hb.cell (p := ⟨bk, o + 3, none⟩) HBK.out).trans c3⟩))
          have HHW := Lib.hid hw
          have hev : ev = 0 ∨ ¬ ev = 0 := by omega
          have HSZ := Lib.hid (show w.heap.size + 1 ≤ w1.heap.size from by simpa using HB1S.out)
          clear hat hel hbk c1 c2 c3 s2 s3 ht0 ht1 hr2 hr3 hb hv hve hvv hnums hgood hw HST
          go_wp2_with fail
          refine (HVV.out _).mono ?_
          rintro e w4 ⟨rfl, rfl⟩
          clear c0
          go_wp2_with fail
          have b5 : Below w4.heap.size w4 w4.drew := (Below.refl _ _).drew
          refine wp_region_held_drew (S := (fun W => W.cell? ⟨bk, o + 1, none⟩ = some (.string ⟨t1.toArray⟩) ∧ W.cell? ⟨bk, o + 2, none⟩ = some (.string r2) ∧ W.cell? ⟨bk, o + 3, none⟩ = some (.string r3))) (by kernel_rfl) (HCS.out _ b5) (fun hHeld => ?_)
          refine wpAnyH_take (i := 0) (v := ?_) rfl (by kernel_rfl) (by kernel_rfl) (by kernel_rfl) (fun _ _ _ h => h) (.inl ⟨by rfl, ?_⟩) (by assumption) ?_
          rotate_left 1
          · intro w0 hSw
            go_simp <;> with_reducible rfl
          try simp only [Act.put, List.getElem_toArray, List.getElem_cons_zero, List.setIfInBounds_toArray, List.set_cons_zero, List.set_cons_succ]
          refine wpAnyH_take (i := 1) (v := ?_) rfl (by kernel_rfl) (by kernel_rfl) (by kernel_rfl) (fun _ _ _ h => h) (.inl ⟨by rfl, ?_⟩) (by assumption) ?_
          rotate_left 1
          · intro w0 hSw
            go_simp <;> with_reducible rfl
          try simp only [Act.put, List.getElem_toArray, List.getElem_cons_zero, List.getElem_cons_succ, List.setIfInBounds_toArray, List.set_cons_zero, List.set_cons_succ]
          refine wpAnyH_take (i := 2) (v := ?_) rfl (by kernel_rfl) (by kernel_rfl) (by kernel_rfl) (fun _ _ _ h => h) (.inl ⟨by rfl, ?_⟩) (by assumption) ?_
          rotate_left 1
          · intro w0 hSw
            go_simp <;> with_reducible rfl
          try simp only [Act.put, List.getElem_toArray, List.getElem_cons_zero, List.getElem_cons_succ, List.setIfInBounds_toArray, List.set_cons_zero, List.set_cons_succ]
          refine wpAnyH_take (i := 3) (v := ?_) rfl (by kernel_rfl) (by kernel_rfl) (by kernel_rfl) (fun _ _ _ h => h) (.inl ⟨by rfl, ?_⟩) (by assumption) ?_
          rotate_left 1
          · intro w0 hSw
            obtain ⟨z1, z2, z3⟩ := hSw
            go_simp <;> with_reducible rfl
          try simp only [Act.put, List.getElem_toArray, List.getElem_cons_zero, List.getElem_cons_succ, List.setIfInBounds_toArray, List.set_cons_zero, List.set_cons_succ]
          refine wpAnyH_take (i := 5) (v := ?_) rfl (by kernel_rfl) (by kernel_rfl) (by kernel_rfl) (fun _ _ _ h => h) (.inl ⟨by rfl, ?_⟩) (by assumption) ?_
          rotate_left 1
          · intro w0 hSw
            go_simp <;> with_reducible rfl
          try simp only [Act.put, List.getElem_toArray, List.getElem_cons_zero, List.getElem_cons_succ, List.setIfInBounds_toArray, List.set_cons_zero, List.set_cons_succ]
          refine wpAnyH_take (i := 6) (v := ?_) rfl (by kernel_rfl) (by kernel_rfl) (by kernel_rfl) (fun _ _ _ h => h) (.inl ⟨by rfl, ?_⟩) (by assumption) ?_
          rotate_left 1
          · intro w0 hSw
            go_simp <;> with_reducible rfl
          try simp only [Act.put, List.getElem_toArray, List.getElem_cons_zero, List.getElem_cons_succ, List.setIfInBounds_toArray, List.set_cons_zero, List.set_cons_succ]
          refine wpAnyH_take (i := 7) (v := ?_) rfl (by kernel_rfl) (by kernel_rfl) (by kernel_rfl) (fun _ _ _ h => h) (.inl ⟨by rfl, ?_⟩) (by assumption) ?_
          rotate_left 1
          · intro w0 hSw
            obtain ⟨z1, z2, z3⟩ := hSw
            go_simp <;> with_reducible rfl
          try simp only [Act.put, List.getElem_toArray, List.getElem_cons_zero, List.getElem_cons_succ, List.setIfInBounds_toArray, List.set_cons_zero, List.set_cons_succ]
          refine wpAnyH_take (i := 8) (v := ?_) rfl (by kernel_rfl) (by kernel_rfl) (by kernel_rfl) (fun _ _ _ h => h) (.inl ⟨by rfl, ?_⟩) (by assumption) ?_
          rotate_left 1
          · intro w0 hSw
            go_simp <;> with_reducible rfl
          try simp only [Act.put, List.getElem_toArray, List.getElem_cons_zero, List.getElem_cons_succ, List.setIfInBounds_toArray, List.set_cons_zero, List.set_cons_succ]
          refine wpAnyH_take (i := 9) (v := ?_) rfl (by kernel_rfl) (by kernel_rfl) (by kernel_rfl) (fun _ _ _ h => h) (.inl ⟨by rfl, ?_⟩) (by assumption) ?_
          rotate_left 1
          · intro w0 hSw
            go_simp <;> with_reducible rfl
          try simp only [Act.put, List.getElem_toArray, List.getElem_cons_zero, List.getElem_cons_succ, List.setIfInBounds_toArray, List.set_cons_zero, List.set_cons_succ]
          refine wpAnyH_take (i := 10) (v := ?_) rfl (by kernel_rfl) (by kernel_rfl) (by kernel_rfl) (fun _ _ _ h => h) (.inl ⟨by rfl, ?_⟩) (by assumption) ?_
          rotate_left 1
          · intro w0 hSw
            obtain ⟨z1, z2, z3⟩ := hSw
            go_simp <;> with_reducible rfl
          try simp only [Act.put, List.getElem_toArray, List.getElem_cons_zero, List.getElem_cons_succ, List.setIfInBounds_toArray, List.set_cons_zero, List.set_cons_succ]
          refine wpAnyH_ready (rs := [4, 12]) (by kernel_rfl) (by simp) ?_
          refine AllReadyH.cons rfl (fun K hK => ?_) (AllReadyH.cons rfl (fun K hK => ?_) AllReadyH.nil)
          · go_simp
            go_at_call 25
            refine (HW.out _).mono ?_
            rintro e w6 ⟨rfl, hb6⟩
            have b6 : Below w4.heap.size w4 w6 := b5.trans (hb6.mono b5.size)
            refine hK.out _ _ (HCS.out _ b6) (fun hHeld => ?_)
            clear hK K
            try simp only [Act.put, List.getElem_toArray, List.getElem_cons_zero, List.getElem_cons_succ, List.setIfInBounds_toArray, List.set_cons_zero, List.set_cons_succ]
            refine wpAnyH_take (i := 11) (v := ?_) rfl (by kernel_rfl) (by kernel_rfl) (by kernel_rfl) (fun _ _ _ h => h) (.inl ⟨by rfl, ?_⟩) (by assumption) ?_
            rotate_left 1
            · intro w0 hSw
              go_simp <;> with_reducible rfl
            try simp only [Act.put, List.getElem_toArray, List.getElem_cons_zero, List.getElem_cons_succ, List.setIfInBounds_toArray, List.set_cons_zero, List.set_cons_succ]
            refine wpAnyH_ready (rs := [12]) (by kernel_rfl) (by simp) ?_
            refine AllReadyH.cons rfl (fun K hK => ?_) AllReadyH.nil
            go_simp
            have hal : ∃ W, w6.alloc (.cells acctZ.toArray 32) = W := ⟨_, rfl⟩
            obtain ⟨w7, hal⟩ := hal
            have b7 : Below w4.heap.size w4 w7 := by rw [← hal]; exact b6.alloc b6.size _
            have q7 : HasCells w7 w6.heap.size acctZ 32 := by rw [← hal]; exact HasCells.new _ _ _
            have hcz : HasCells w7 w.heap.size acctZ 32 := HC3.out.after b7
            have hbw : Below w.heap.size w w7 := HB3.out.trans (b7.mono HB3.out.size)
            have hgt : w.heap.size < w6.heap.size ∧ bk ≠ w6.heap.size := ⟨by have := HC3.out.lt; have := b6.size; omega, by have := HBK.out; have := b6.size; omega⟩
            rw [show w6.alloc (.cells #[.int .u64 0, .int .u64 0, .int .u64 0, .int .u64 0, .int .u64 0, .string ⟨#[]⟩, .string ⟨#[]⟩] 32) = w7 from hal]
            clear hal
            refine hK.out _ _ (HCS.out _ b7) (fun hHeld => ?_)
            clear hK K
            try simp only [Act.put, List.getElem_toArray, List.getElem_cons_zero, List.getElem_cons_succ, List.setIfInBounds_toArray, List.set_cons_zero, List.set_cons_succ]
            have HQ7 := Lib.hid q7
            have HC7 := Lib.hid hcz
            have HB7 := Lib.hid hbw
            have HGN := Lib.hid hgt
            clear q7 hcz hbw hgt b7
            refine wpAnyH_ready (rs := [13]) (by kernel_rfl) (by simp) ?_
            refine AllReadyH.cons rfl (fun K hK => ?_) AllReadyH.nil
            refine step_storeK (by rfl) 32 _ _ rfl w6.heap.size 0 (acctL nv x0 x1 x2 x3 r2 r3).toArray rfl (by rfl) (HQ7.out.there 0 _ (by rw [List.size_toArray, acctL_len]; decide)) (by rw [List.size_toArray, acctL_len]; exact infoAcct) (acctL_one _ _ _ _ _ _ _) ?_
            refine hK.out _ _ (⟨(World.cell?_of_block (a := ⟨bk, o + 1, none⟩) (heap_setCells_other _ _ _ _ _ HGN.out.2)).trans hHeld.1, (World.cell?_of_block (a := ⟨bk, o + 2, none⟩) (heap_setCells_other _ _ _ _ _ HGN.out.2)).trans hHeld.2.1, (World.cell?_of_block (a := ⟨bk, o + 3, none⟩) (heap_setCells_other _ _ _ _ _ HGN.out.2)).trans hHeld.2.2⟩) (fun hHeld => ?_)
            clear hK K
            simp only [Act.put, List.getElem_toArray, List.getElem_cons_zero, List.getElem_cons_succ]
            refine wpAnyH_done (by kernel_rfl) ?_ 0
            obtain ⟨w8, hw8⟩ : ∃ W, w7.setCells w6.heap.size 0 (acctL nv x0 x1 x2 x3 r2 r3) = W := ⟨_, rfl⟩
            have HG8 := Lib.hid (show HasCells w8 w6.heap.size (acctL nv x0 x1 x2 x3 r2 r3) 32 from by rw [← hw8, ← acctL_spl nv x0 x1 x2 x3 r2 r3]; exact HQ7.out.sets _ 0)
            have HC8 := Lib.hid (show HasCells w8 w.heap.size acctZ 32 from by rw [← hw8]; exact HC7.out.kept (heap_setCells_other _ _ _ _ _ (by have := HGN.out.1; omega)))
            have HB8 := Lib.hid (show Below w.heap.size w w8 from by rw [← hw8]; exact HB7.out.trans (sets_belowK (by have := HGN.out.1; omega) _ _ _))
            have hS8 : w8.cell? ⟨bk, o + 1, none⟩ = some (.string ⟨t1.toArray⟩) ∧ w8.cell? ⟨bk, o + 2, none⟩ = some (.string r2) ∧ w8.cell? ⟨bk, o + 3, none⟩ = some (.string r3) := by rw [← hw8]; exact hHeld
            try rw [hw8]
            obtain ⟨k1, k2, k3⟩ := hS8
            clear hHeld hw8 HQ7 HC7 HB7
            rcases hev with rfl | hev
            · go_wp2_with fail
              refine (HSH.out _).mono ?_
              rintro e w9 ⟨rfl, rfl⟩
              cases b with
              | false =>
                go_wp2_with ((with_reducible refine store_gateK 32 ?_); refine wpList_store_mid rfl 32 _ _ rfl w.heap.size 0 acctZ.toArray rfl rfl (HC8.out.there 0 _ (by decide)) infoAcct acctZ_one ?_)
                have hf := HC8.out.sets acctZ 0
                obtain ⟨e1, e2⟩ := HBAD.out (by rw [HNUMS.out]; simp)
                refine bodyPost_ret (results_cells2 rfl _ _ w.heap.size acctZ _ (by rfl) hf.range Tryd.underlying32 rfl infoAcct) rfl ⟨?_, HB8.out.trans (sets_belowK (Nat.le_refl _) _ _ _)⟩
                rw [e1, e2]
                rfl
              | true =>
                have d5 := HG8.out.cell (j := 5) rfl
                have d6 := HG8.out.cell (j := 6) rfl
                by_cases h2 : r2.size = 32
                · by_cases h3 : r3.size = 32
                  · have l2 : ((r2.size : Int) != 32) = false := by rw [h2]; rfl
                    have l3 : ((r3.size : Int) != 32) = false := by rw [h3]; rfl
                    obtain ⟨L, hL⟩ : ∃ L, (acctL nv x0 x1 x2 x3 r2 r3) = L := ⟨_, rfl⟩
                    have hgl := HG8.out
                    have hgd := HG.out (by rw [HNUMS.out, h2, h3]; rfl)
                    have hl7 := acctL_len nv x0 x1 x2 x3 r2 r3
                    have hl1 := acctL_one nv x0 x1 x2 x3 r2 r3
                    have hls := acctL_spl nv x0 x1 x2 x3 r2 r3
                    rw [hL] at hgl hgd hl7 hl1 hls
                    have HL := Lib.hid (And.intro hgl (And.intro hgd (And.intro hl7 (And.intro hl1 hls))))
                    clear hgl hgd hl7 hl1 hls hL h2 h3
                    go_wp2_with (first | ((with_reducible refine load_gateK 32 ?_); refine wpList_load_mid rfl 32 _ rfl w6.heap.size 0 rfl L _ HL.out.1.range Tryd.underlying32 rfl (by rw [HL.out.2.2.1]; exact infoAcct) ?_) | ((with_reducible refine store_gateK 32 ?_); refine wpList_store_mid rfl 32 _ _ rfl w.heap.size 0 L.toArray rfl rfl (HC8.out.there 0 _ (by rw [List.size_toArray, HL.out.2.2.1]; decide)) (by rw [List.size_toArray, HL.out.2.2.1]; exact infoAcct) HL.out.2.2.2.1 ?_))
                    have hf := HC8.out.sets L 0
                    rw [HL.out.2.2.2.2] at hf
                    refine bodyPost_ret (results_cells2 rfl _ _ w.heap.size L _ (by rfl) hf.range Tryd.underlying32 rfl (by rw [HL.out.2.2.1]; exact infoAcct)) rfl ⟨?_, HB8.out.trans (sets_belowK (Nat.le_refl _) _ _ _)⟩
                    rw [HL.out.2.1.1, HL.out.2.1.2]
                    rfl
                  · have l2 : ((r2.size : Int) != 32) = false := by rw [h2]; rfl
                    have l3 : ((r3.size : Int) != 32) = true := by simp; omega
                    have H3 := Lib.hid h3
                    clear h2 h3
                    go_wp2_with ((with_reducible refine store_gateK 32 ?_); refine wpList_store_mid rfl 32 _ _ rfl w.heap.size 0 acctZ.toArray rfl rfl (HC8.out.there 0 _ (by decide)) infoAcct acctZ_one ?_)
                    have hf := HC8.out.sets acctZ 0
                    obtain ⟨e1, e2⟩ := HBAD.out (by rw [HNUMS.out]; simp [H3.out])
                    refine bodyPost_ret (results_cells2 rfl _ _ w.heap.size acctZ _ (by rfl) hf.range Tryd.underlying32 rfl infoAcct) rfl ⟨?_, HB8.out.trans (sets_belowK (Nat.le_refl _) _ _ _)⟩
                    rw [e1, e2]
                    rfl
                · have l2 : ((r2.size : Int) != 32) = true := by simp; omega
                  have H2 := Lib.hid h2
                  clear h2
                  go_wp2_with ((with_reducible refine store_gateK 32 ?_); refine wpList_store_mid rfl 32 _ _ rfl w.heap.size 0 acctZ.toArray rfl rfl (HC8.out.there 0 _ (by decide)) infoAcct acctZ_one ?_)
                  have hf := HC8.out.sets acctZ 0
                  obtain ⟨e1, e2⟩ := HBAD.out (by rw [HNUMS.out]; simp [H2.out])
                  refine bodyPost_ret (results_cells2 rfl _ _ w.heap.size acctZ _ (by rfl) hf.range Tryd.underlying32 rfl infoAcct) rfl ⟨?_, HB8.out.trans (sets_belowK (Nat.le_refl _) _ _ _)⟩
                  rw [e1, e2]
                  rfl
            · have HEV := Lib.hid hev
              go_wp2_with ((with_reducible refine store_gateK 32 ?_); refine wpList_store_mid rfl 32 _ _ rfl w.heap.size 0 acctZ.toArray rfl rfl (HC8.out.there 0 _ (by decide)) infoAcct acctZ_one ?_)
              have hf := HC8.out.sets acctZ 0
              obtain ⟨e1, e2⟩ := HBAD.out (by rw [HNUMS.out]; simp [HEV.out])
              refine bodyPost_ret (results_cells2 rfl _ _ w.heap.size acctZ _ (by rfl) hf.range Tryd.underlying32 rfl infoAcct) rfl ⟨?_, HB8.out.trans (sets_belowK (Nat.le_refl _) _ _ _)⟩
              rw [e1, e2]
              rfl
          · go_simp
            have hal : ∃ W, (w4.alloc (.cells acctZ.toArray 32)).drew = W := ⟨_, rfl⟩
            obtain ⟨w6, hal⟩ := hal
            have b6 : Below w4.heap.size w4 w6 := by rw [← hal]; exact ((Below.refl _ _).alloc (Nat.le_refl _) _).drew
            have q6 : HasCells w6 w4.heap.size acctZ 32 := by rw [← hal]; exact (HasCells.new w4 acctZ 32).kept rfl
            rw [show (w4.alloc (.cells #[.int .u64 0, .int .u64 0, .int .u64 0, .int .u64 0, .int .u64 0, .string ⟨#[]⟩, .string ⟨#[]⟩] 32)).drew = w6 from hal]
            clear hal
            refine hK.out _ _ (HCS.out _ b6) (fun hHeld => ?_)
            clear hK K
            try simp only [Act.put, List.getElem_toArray, List.getElem_cons_zero, List.getElem_cons_succ, List.setIfInBounds_toArray, List.set_cons_zero, List.set_cons_succ]
            refine wpAnyH_ready (rs := [4]) (by kernel_rfl) (by simp) ?_
            refine AllReadyH.cons rfl (fun K hK => ?_) AllReadyH.nil
            go_simp
            go_at_call 25
            refine (HW.out _).mono ?_
            rintro e w7 ⟨rfl, hb7⟩
            have b7 : Below w4.heap.size w4 w7 := b6.trans (hb7.mono b6.size)
            have q7 : HasCells w7 w4.heap.size acctZ 32 := q6.after hb7
            have hcz : HasCells w7 w.heap.size acctZ 32 := HC3.out.after b7
            have hbw : Below w.heap.size w w7 := HB3.out.trans (b7.mono HB3.out.size)
            have hgt : w.heap.size < w4.heap.size ∧ bk ≠ w4.heap.size := ⟨HC3.out.lt, by have := HBK.out; omega⟩
            clear q6 hb7
            refine hK.out _ _ (HCS.out _ b7) (fun hHeld => ?_)
            clear hK K
            try simp only [Act.put, List.getElem_toArray, List.getElem_cons_zero, List.getElem_cons_succ, List.setIfInBounds_toArray, List.set_cons_zero, List.set_cons_succ]
            refine wpAnyH_take (i := 11) (v := ?_) rfl (by kernel_rfl) (by kernel_rfl) (by kernel_rfl) (fun _ _ _ h => h) (.inl ⟨by rfl, ?_⟩) (by assumption) ?_
            rotate_left 1
            · intro w0 hSw
              go_simp <;> with_reducible rfl
            try simp only [Act.put, List.getElem_toArray, List.getElem_cons_zero, List.getElem_cons_succ, List.setIfInBounds_toArray, List.set_cons_zero, List.set_cons_succ]
            have HQ7 := Lib.hid q7
            have HC7 := Lib.hid hcz
            have HB7 := Lib.hid hbw
            have HGN := Lib.hid hgt
            clear q7 hcz hbw hgt b7
            refine wpAnyH_ready (rs := [13]) (by kernel_rfl) (by simp) ?_
            refine AllReadyH.cons rfl (fun K hK => ?_) AllReadyH.nil
            refine step_storeK (by rfl) 32 _ _ rfl w4.heap.size 0 (acctL nv x0 x1 x2 x3 r2 r3).toArray rfl (by rfl) (HQ7.out.there 0 _ (by rw [List.size_toArray, acctL_len]; decide)) (by rw [List.size_toArray, acctL_len]; exact infoAcct) (acctL_one _ _ _ _ _ _ _) ?_
            refine hK.out _ _ (⟨(World.cell?_of_block (a := ⟨bk, o + 1, none⟩) (heap_setCells_other _ _ _ _ _ HGN.out.2)).trans hHeld.1, (World.cell?_of_block (a := ⟨bk, o + 2, none⟩) (heap_setCells_other _ _ _ _ _ HGN.out.2)).trans hHeld.2.1, (World.cell?_of_block (a := ⟨bk, o + 3, none⟩) (heap_setCells_other _ _ _ _ _ HGN.out.2)).trans hHeld.2.2⟩) (fun hHeld => ?_)
            clear hK K
            simp only [Act.put, List.getElem_toArray, List.getElem_cons_zero, List.getElem_cons_succ]
            refine wpAnyH_done (by kernel_rfl) ?_ 0
            obtain ⟨w8, hw8⟩ : ∃ W, w7.setCells w4.heap.size 0 (acctL nv x0 x1 x2 x3 r2 r3) = W := ⟨_, rfl⟩
            have HG8 := Lib.hid (show HasCells w8 w4.heap.size (acctL nv x0 x1 x2 x3 r2 r3) 32 from by rw [← hw8, ← acctL_spl nv x0 x1 x2 x3 r2 r3]; exact HQ7.out.sets _ 0)
            have HC8 := Lib.hid (show HasCells w8 w.heap.size acctZ 32 from by rw [← hw8]; exact HC7.out.kept (heap_setCells_other _ _ _ _ _ (by have := HGN.out.1; omega)))
            have HB8 := Lib.hid (show Below w.heap.size w w8 from by rw [← hw8]; exact HB7.out.trans (sets_belowK (by have := HGN.out.1; omega) _ _ _))
            have hS8 : w8.cell? ⟨bk, o + 1, none⟩ = some (.string ⟨t1.toArray⟩) ∧ w8.cell? ⟨bk, o + 2, none⟩ = some (.string r2) ∧ w8.cell? ⟨bk, o + 3, none⟩ = some (.string r3) := by rw [← hw8]; exact hHeld
            try rw [hw8]
            obtain ⟨k1, k2, k3⟩ := hS8
            clear hHeld hw8 HQ7 HC7 HB7
            rcases hev with rfl | hev
            · go_wp2_with fail
              refine (HSH.out _).mono ?_
              rintro e w9 ⟨rfl, rfl⟩
              cases b with
              | false =>
                go_wp2_with ((with_reducible refine store_gateK 32 ?_); refine wpList_store_mid rfl 32 _ _ rfl w.heap.size 0 acctZ.toArray rfl rfl (HC8.out.there 0 _ (by decide)) infoAcct acctZ_one ?_)
                have hf := HC8.out.sets acctZ 0
                obtain ⟨e1, e2⟩ := HBAD.out (by rw [HNUMS.out]; simp)
                refine bodyPost_ret (results_cells2 rfl _ _ w.heap.size acctZ _ (by rfl) hf.range Tryd.underlying32 rfl infoAcct) rfl ⟨?_, HB8.out.trans (sets_belowK (Nat.le_refl _) _ _ _)⟩
                rw [e1, e2]
                rfl
              | true =>
                have d5 := HG8.out.cell (j := 5) rfl
                have d6 := HG8.out.cell (j := 6) rfl
                by_cases h2 : r2.size = 32
                · by_cases h3 : r3.size = 32
                  · have l2 : ((r2.size : Int) != 32) = false := by rw [h2]; rfl
                    have l3 : ((r3.size : Int) != 32) = false := by rw [h3]; rfl
                    obtain ⟨L, hL⟩ : ∃ L, (acctL nv x0 x1 x2 x3 r2 r3) = L := ⟨_, rfl⟩
                    have hgl := HG8.out
                    have hgd := HG.out (by rw [HNUMS.out, h2, h3]; rfl)
                    have hl7 := acctL_len nv x0 x1 x2 x3 r2 r3
                    have hl1 := acctL_one nv x0 x1 x2 x3 r2 r3
                    have hls := acctL_spl nv x0 x1 x2 x3 r2 r3
                    rw [hL] at hgl hgd hl7 hl1 hls
                    have HL := Lib.hid (And.intro hgl (And.intro hgd (And.intro hl7 (And.intro hl1 hls))))
                    clear hgl hgd hl7 hl1 hls hL h2 h3
                    go_wp2_with (first | ((with_reducible refine load_gateK 32 ?_); refine wpList_load_mid rfl 32 _ rfl w4.heap.size 0 rfl L _ HL.out.1.range Tryd.underlying32 rfl (by rw [HL.out.2.2.1]; exact infoAcct) ?_) | ((with_reducible refine store_gateK 32 ?_); refine wpList_store_mid rfl 32 _ _ rfl w.heap.size 0 L.toArray rfl rfl (HC8.out.there 0 _ (by rw [List.size_toArray, HL.out.2.2.1]; decide)) (by rw [List.size_toArray, HL.out.2.2.1]; exact infoAcct) HL.out.2.2.2.1 ?_))
                    have hf := HC8.out.sets L 0
                    rw [HL.out.2.2.2.2] at hf
                    refine bodyPost_ret (results_cells2 rfl _ _ w.heap.size L _ (by rfl) hf.range Tryd.underlying32 rfl (by rw [HL.out.2.2.1]; exact infoAcct)) rfl ⟨?_, HB8.out.trans (sets_belowK (Nat.le_refl _) _ _ _)⟩
                    rw [HL.out.2.1.1, HL.out.2.1.2]
                    rfl
                  · have l2 : ((r2.size : Int) != 32) = false := by rw [h2]; rfl
                    have l3 : ((r3.size : Int) != 32) = true := by simp; omega
                    have H3 := Lib.hid h3
                    clear h2 h3
                    go_wp2_with ((with_reducible refine store_gateK 32 ?_); refine wpList_store_mid rfl 32 _ _ rfl w.heap.size 0 acctZ.toArray rfl rfl (HC8.out.there 0 _ (by decide)) infoAcct acctZ_one ?_)
                    have hf := HC8.out.sets acctZ 0
                    obtain ⟨e1, e2⟩ := HBAD.out (by rw [HNUMS.out]; simp [H3.out])
                    refine bodyPost_ret (results_cells2 rfl _ _ w.heap.size acctZ _ (by rfl) hf.range Tryd.underlying32 rfl infoAcct) rfl ⟨?_, HB8.out.trans (sets_belowK (Nat.le_refl _) _ _ _)⟩
                    rw [e1, e2]
                    rfl
                · have l2 : ((r2.size : Int) != 32) = true := by simp; omega
                  have H2 := Lib.hid h2
                  clear h2
                  go_wp2_with ((with_reducible refine store_gateK 32 ?_); refine wpList_store_mid rfl 32 _ _ rfl w.heap.size 0 acctZ.toArray rfl rfl (HC8.out.there 0 _ (by decide)) infoAcct acctZ_one ?_)
                  have hf := HC8.out.sets acctZ 0
                  obtain ⟨e1, e2⟩ := HBAD.out (by rw [HNUMS.out]; simp [H2.out])
                  refine bodyPost_ret (results_cells2 rfl _ _ w.heap.size acctZ _ (by rfl) hf.range Tryd.underlying32 rfl infoAcct) rfl ⟨?_, HB8.out.trans (sets_belowK (Nat.le_refl _) _ _ _)⟩
                  rw [e1, e2]
                  rfl
            · have HEV := Lib.hid hev
              go_wp2_with ((with_reducible refine store_gateK 32 ?_); refine wpList_store_mid rfl 32 _ _ rfl w.heap.size 0 acctZ.toArray rfl rfl (HC8.out.there 0 _ (by decide)) infoAcct acctZ_one ?_)
              have hf := HC8.out.sets acctZ 0
              obtain ⟨e1, e2⟩ := HBAD.out (by rw [HNUMS.out]; simp [HEV.out])
              refine bodyPost_ret (results_cells2 rfl _ _ w.heap.size acctZ _ (by rfl) hf.range Tryd.underlying32 rfl infoAcct) rfl ⟨?_, HB8.out.trans (sets_belowK (Nat.le_refl _) _ _ _)⟩
              rw [e1, e2]
              rfl
        · have g4 : ¬ ((m : Int) = 4) := by omega
          have H4 := Lib.hid h4
          clear h4
          go_wp2_with ((with_reducible refine store_gateK 32 ?_); refine wpList_store_mid rfl 32 _ _ rfl w.heap.size 0 acctZ.toArray rfl rfl (HC3.out.there 0 _ (by decide)) infoAcct acctZ_one ?_)
          have hf := HC3.out.sets acctZ 0
          obtain ⟨e1, e2⟩ := HBAD.out (by unfold acctB acctShape; rw [HM.out, decide_eq_false H4.out]; simp)
          refine bodyPost_ret (results_cells2 rfl _ _ w.heap.size acctZ _ (by rfl) hf.range Tryd.underlying32 rfl infoAcct) rfl ⟨?_, HB3.out.trans (sets_belowK (Nat.le_refl _) _ _ _)⟩
          rw [e1, e2]
          rfl
end Go.Proofs.YtmjblnhnadffmaaDoor

/- Contracts of the reference's Bytes and From of accounts. -/
namespace Go.Proofs.YtmjblnhnadffmaaDoor
open Go.RowKit Go.Shelf Go.Lib

theorem numberRefA_lit (n : Nat) {l : List UInt8} (h : num n = l) (hn : n < 18446744073709551616) (w : World) : Calls Tryd.prog 40 #[.int .u64 n] w fun e w' => e = .returned (.string ⟨l.toArray⟩) ∧ Below w.heap.size w w' := by
  rw [← h]; exact numberRef_any n w hn
theorem valueRefA_lit (s : ByteArray) {v : Value} (h : valueV s.data.toList = v) (w : World) : Calls Tryd.prog 43 #[.string s] w fun e w' => e = .returned v ∧ w' = w := by
  rw [← h]; exact valueRef_any s w
set_option maxRecDepth 100000 in
/-- Encode of a list of four texts that was just laid -/
theorem encode4Ref {wk wl : World} {nl sl : List UInt8} {root code : ByteArray} {pl : List UInt8}
    (hb : Below (wk.alloc (.cells #[.bool false, .string ⟨nl.toArray⟩, .slice none 0 0, .bool false, .string ⟨sl.toArray⟩, .slice none 0 0, .bool false, .string root, .slice none 0 0, .bool false, .string code, .slice none 0 0] 51)).heap.size (wk.alloc (.cells #[.bool false, .string ⟨nl.toArray⟩, .slice none 0 0, .bool false, .string ⟨sl.toArray⟩, .slice none 0 0, .bool false, .string root, .slice none 0 0, .bool false, .string code, .slice none 0 0] 51)) wl)
    (he : encode (.mk true [] [.mk false nl [], .mk false sl [], .mk false root.data.toList [], .mk false code.data.toList []]) = (pl, 0))
    (hp : (put (.mk true [] [.mk false nl [], .mk false sl [], .mk false root.data.toList [], .mk false code.data.toList []])).length ≤ 1099511627776) :
    Calls Tryd.prog 32 #[.agg #[.bool true, .string ⟨#[]⟩, .slice (some ⟨wk.heap.size, 0, none⟩) 4 4]] wl fun e w' => e = .returned (.tuple #[.string ⟨pl.toArray⟩, .int .i64 0]) ∧ Below wl.heap.size wl w' := by
  have h0 := fun j u hu => (hb.cell (p := ⟨wk.heap.size, j, none⟩) (by simp)).trans (cells_at wk [.bool false, .string ⟨nl.toArray⟩, .slice none 0 0, .bool false, .string ⟨sl.toArray⟩, .slice none 0 0, .bool false, .string root, .slice none 0 0, .bool false, .string code, .slice none 0 0] 51 j u hu)
  have hrd : Reads wl wl.heap.size (.slice (some ⟨wk.heap.size, 0, none⟩) 4 4) [.mk false nl [], .mk false sl [], .mk false root.data.toList [], .mk false code.data.toList []] := by
    refine Reads.mk (xs := [.mk false nl [], .mk false sl [], .mk false root.data.toList [], .mk false code.data.toList []]) (cap := 4) (hl := by simp) (by have := hb.size; simp at this; omega) (fun i x hx => ?_)
    match i, hx with
    | 0, hx => cases hx; exact ⟨h0 0 _ rfl, h0 1 _ rfl, _, h0 2 _ rfl, Reads.nil _ _⟩
    | 1, hx => cases hx; exact ⟨h0 3 _ rfl, h0 4 _ rfl, _, h0 5 _ rfl, Reads.nil _ _⟩
    | 2, hx => cases hx; exact ⟨h0 6 _ rfl, h0 7 _ rfl, _, h0 8 _ rfl, Reads.nil _ _⟩
    | 3, hx => cases hx; exact ⟨h0 9 _ rfl, h0 10 _ rfl, _, h0 11 _ rfl, Reads.nil _ _⟩
  have := encodeRef_any (.mk true [] [.mk false nl [], .mk false sl [], .mk false root.data.toList [], .mk false code.data.toList []]) _ wl (by simp [Item.size, sizeAll]) hp hrd
  unfold encodeV at this
  rw [he] at this
  exact this

set_option maxRecDepth 100000 in
set_option maxHeartbeats 3200000 in
theorem acctBytesRef_any (n b : Nat) (root code : ByteArray) (w : World) (hn : n < 18446744073709551616) :
    Calls Tryd.prog 20 #[acctV n b root code] w fun e w' => e = .returned (.tuple #[.string ⟨(acctBytes n b root.data.toList code.data.toList).1.toArray⟩, .int .i64 (acctBytes n b root.data.toList code.data.toList).2]) ∧ Below w.heap.size w w' := by
  have hrl : root.data.toList.length = root.size := rfl
  have hcl : code.data.toList.length = code.size := rfl
  have HH := Lib.hid (fun W => shortRef_any b W)
  have hd : ∃ x0 x1 x2 x3 : Nat, wordV b = .agg #[.int .u64 x0, .int .u64 x1, .int .u64 x2, .int .u64 x3] ∧ acctV n b root code = .agg #[.int .u64 n, .int .u64 x0, .int .u64 x1, .int .u64 x2, .int .u64 x3, .string root, .string code] :=
    ⟨limb b 0, limb b 1, limb b 2, limb b 3, rfl, rfl⟩
  obtain ⟨x0, x1, x2, x3, hw, ha⟩ := hd
  rw [hw] at HH
  rw [ha]
  by_cases hr : root.size = 32
  · by_cases hc : code.size = 32
    · have hE := acct_encode n b (root := root.data.toList) (code := code.data.toList) (by omega) (by omega)
      have hP := (acct_put n b (root := root.data.toList) (code := code.data.toList) (by omega) (by omega)).2
      have e1 : acctBytes n b root.data.toList code.data.toList = (put (acctItem n b root.data.toList code.data.toList), 0) := by unfold acctBytes; rw [if_neg (by omega)]
      rw [e1]
      unfold acctItem at hE hP ⊢
      obtain ⟨nl, hnl⟩ : ∃ l, num n = l := ⟨_, rfl⟩
      obtain ⟨sl, hsl⟩ : ∃ l, shortW b = l := ⟨_, rfl⟩
      have HN := Lib.hid (fun W => numberRefA_lit n hnl hn W)
      rw [hsl] at HH
      rw [hnl, hsl] at hE hP ⊢
      obtain ⟨pl, hpl⟩ : ∃ l, put (.mk true [] [.mk false nl [], .mk false sl [], .mk false root.data.toList [], .mk false code.data.toList []]) = l := ⟨_, rfl⟩
      rw [hpl] at hE ⊢
      have HE := Lib.hid (And.intro hE (show (put (.mk true [] [.mk false nl [], .mk false sl [], .mk false root.data.toList [], .mk false code.data.toList []])).length ≤ 1099511627776 by omega))
      have h1 : ((root.size : Int) != 32) = false := by rw [hr]; rfl
      have h2 : ((code.size : Int) != 32) = false := by rw [hc]; rfl
      clear hE hP e1 hnl hsl hpl hw ha hrl hcl hr hc hn
      go_enter Tryd.func20, Tryd.ntmps20
      go_wp2_with fail
      obtain ⟨w3, hw3⟩ : ∃ w3, w.alloc (.cells #[.int .u64 n, .int .u64 x0, .int .u64 x1, .int .u64 x2, .int .u64 x3, .string root, .string code] 32) = w3 := ⟨_, rfl⟩
      have HB3 := Lib.hid (laid1 w (.cells #[.int .u64 n, .int .u64 x0, .int .u64 x1, .int .u64 x2, .int .u64 x3, .string root, .string code] 32))
      have hc0 := cells_at w [.int .u64 n, .int .u64 x0, .int .u64 x1, .int .u64 x2, .int .u64 x3, .string root, .string code] 32
      have hk : w.heap.size < (w.alloc (.cells #[.int .u64 n, .int .u64 x0, .int .u64 x1, .int .u64 x2, .int .u64 x3, .string root, .string code] 32)).heap.size := by simp
      rw [hw3] at HB3 hc0 hk ⊢
      have HS := Lib.hid (fun W' (hb : Below w3.heap.size w3 W') => (show W'.cell? ⟨w.heap.size, 0, none⟩ = some (.int .u64 n) ∧ W'.cell? ⟨w.heap.size, 1, none⟩ = some (.int .u64 x0) ∧ W'.cell? ⟨w.heap.size, 2, none⟩ = some (.int .u64 x1) ∧ W'.cell? ⟨w.heap.size, 3, none⟩ = some (.int .u64 x2) ∧ W'.cell? ⟨w.heap.size, 4, none⟩ = some (.int .u64 x3) ∧ W'.cell? ⟨w.heap.size, 5, none⟩ = some (.string root) ∧ W'.cell? ⟨w.heap.size, 6, none⟩ = some (.string code) from
        ⟨(hb.cell (p := ⟨w.heap.size, 0, none⟩) hk).trans (hc0 0 _ rfl), (hb.cell (p := ⟨w.heap.size, 1, none⟩) hk).trans (hc0 1 _ rfl), (hb.cell (p := ⟨w.heap.size, 2, none⟩) hk).trans (hc0 2 _ rfl), (hb.cell (p := ⟨w.heap.size, 3, none⟩) hk).trans (hc0 3 _ rfl), (hb.cell (p := ⟨w.heap.size, 4, none⟩) hk).trans (hc0 4 _ rfl), (hb.cell (p := ⟨w.heap.size, 5, none⟩) hk).trans (hc0 5 _ rfl), (hb.cell (p := ⟨w.heap.size, 6, none⟩) hk).trans (hc0 6 _ rfl)⟩))
      clear hw3 hc0 hk
      have b3 : Below w3.heap.size w3 w3.drew := (Below.refl _ _).drew
      refine wp_region_held_drew (S := (fun w' => w'.cell? ⟨w.heap.size, 0, none⟩ = some (.int .u64 n) ∧ w'.cell? ⟨w.heap.size, 1, none⟩ = some (.int .u64 x0) ∧ w'.cell? ⟨w.heap.size, 2, none⟩ = some (.int .u64 x1) ∧ w'.cell? ⟨w.heap.size, 3, none⟩ = some (.int .u64 x2) ∧ w'.cell? ⟨w.heap.size, 4, none⟩ = some (.int .u64 x3) ∧ w'.cell? ⟨w.heap.size, 5, none⟩ = some (.string root) ∧ w'.cell? ⟨w.heap.size, 6, none⟩ = some (.string code))) (by kernel_rfl) (HS.out _ b3) (fun hHeld => ?_)
      refine wpAnyH_take (i := 0) (v := .pointer (some ⟨w.heap.size, 0, none⟩)) rfl (by kernel_rfl) (by kernel_rfl) (by kernel_rfl) (fun _ _ _ h => h) (.inl ⟨by rfl, ?_⟩) (by assumption) ?_
      · intro w0 hSw
        go_simp
      simp only [Act.put, List.getElem_toArray, List.getElem_cons_zero, List.setIfInBounds_toArray, List.set_cons_zero, List.set_cons_succ]
      refine wpAnyH_take (i := 1) (v := .int .u64 n) rfl (by kernel_rfl) (by kernel_rfl) (by kernel_rfl) (fun _ _ _ h => h) (.inl ⟨by rfl, ?_⟩) (by assumption) ?_
      · intro w0 hSw
        obtain ⟨z0, z1, z2, z3, z4, z5, z6⟩ := hSw
        go_simp
      simp only [Act.put, List.getElem_toArray, List.getElem_cons_zero, List.getElem_cons_succ, List.setIfInBounds_toArray, List.set_cons_zero, List.set_cons_succ]
      refine wpAnyH_take (i := 4) (v := .pointer (some ⟨w.heap.size, 1, none⟩)) rfl (by kernel_rfl) (by kernel_rfl) (by kernel_rfl) (fun _ _ _ h => h) (.inl ⟨by rfl, ?_⟩) (by assumption) ?_
      · intro w0 hSw
        go_simp
      simp only [Act.put, List.getElem_toArray, List.getElem_cons_zero, List.getElem_cons_succ, List.setIfInBounds_toArray, List.set_cons_zero, List.set_cons_succ]
      refine wpAnyH_take (i := 5) (v := .agg #[.int .u64 x0, .int .u64 x1, .int .u64 x2, .int .u64 x3]) rfl (by kernel_rfl) (by kernel_rfl) (by kernel_rfl) (fun _ _ _ h => h) (.inl ⟨by rfl, ?_⟩) (by assumption) ?_
      · intro w0 hSw
        obtain ⟨z0, z1, z2, z3, z4, z5, z6⟩ := hSw
        go_simp
      simp only [Act.put, List.getElem_toArray, List.getElem_cons_zero, List.getElem_cons_succ, List.setIfInBounds_toArray, List.set_cons_zero, List.set_cons_succ]
      refine wpAnyH_take (i := 8) (v := .pointer (some ⟨w.heap.size, 5, none⟩)) rfl (by kernel_rfl) (by kernel_rfl) (by kernel_rfl) (fun _ _ _ h => h) (.inl ⟨by rfl, ?_⟩) (by assumption) ?_
      · intro w0 hSw
        go_simp
      simp only [Act.put, List.getElem_toArray, List.getElem_cons_zero, List.getElem_cons_succ, List.setIfInBounds_toArray, List.set_cons_zero, List.set_cons_succ]
      refine wpAnyH_take (i := 9) (v := .string root) rfl (by kernel_rfl) (by kernel_rfl) (by kernel_rfl) (fun _ _ _ h => h) (.inl ⟨by rfl, ?_⟩) (by assumption) ?_
      · intro w0 hSw
        obtain ⟨z0, z1, z2, z3, z4, z5, z6⟩ := hSw
        go_simp
      simp only [Act.put, List.getElem_toArray, List.getElem_cons_zero, List.getElem_cons_succ, List.setIfInBounds_toArray, List.set_cons_zero, List.set_cons_succ]
      refine wpAnyH_take (i := 11) (v := .pointer (some ⟨w.heap.size, 6, none⟩)) rfl (by kernel_rfl) (by kernel_rfl) (by kernel_rfl) (fun _ _ _ h => h) (.inl ⟨by rfl, ?_⟩) (by assumption) ?_
      · intro w0 hSw
        go_simp
      simp only [Act.put, List.getElem_toArray, List.getElem_cons_zero, List.getElem_cons_succ, List.setIfInBounds_toArray, List.set_cons_zero, List.set_cons_succ]
      refine wpAnyH_take (i := 12) (v := .string code) rfl (by kernel_rfl) (by kernel_rfl) (by kernel_rfl) (fun _ _ _ h => h) (.inl ⟨by rfl, ?_⟩) (by assumption) ?_
      · intro w0 hSw
        obtain ⟨z0, z1, z2, z3, z4, z5, z6⟩ := hSw
        go_simp
      simp only [Act.put, List.getElem_toArray, List.getElem_cons_zero, List.getElem_cons_succ, List.setIfInBounds_toArray, List.set_cons_zero, List.set_cons_succ]
      refine wpAnyH_ready (rs := [2]) (by kernel_rfl) (by simp) ?_
      refine AllReadyH.cons rfl (fun K hK => ?_) AllReadyH.nil
      go_simp
      go_at_call 40
      refine (HN.out _).mono ?_
      rintro e w4 ⟨rfl, hb4⟩
      have b4 := b3.trans (hb4.mono b3.size)
      refine hK.out _ _ (HS.out _ b4) (fun hHeld => ?_)
      clear hK K
      try simp only [Act.put, List.getElem_toArray, List.getElem_cons_zero, List.getElem_cons_succ, List.setIfInBounds_toArray, List.set_cons_zero, List.set_cons_succ]
      refine wpAnyH_ready (rs := [3]) (by kernel_rfl) (by simp) ?_
      refine AllReadyH.cons rfl (fun K hK => ?_) AllReadyH.nil
      go_simp
      go_at_call 33
      refine (textRef_any _ _).mono ?_
      rintro e w5 ⟨rfl, hb5⟩
      have b5 := b4.trans (hb5.mono b4.size)
      refine hK.out _ _ (HS.out _ b5) (fun hHeld => ?_)
      clear hK K
      try simp only [Act.put, List.getElem_toArray, List.getElem_cons_zero, List.getElem_cons_succ, List.setIfInBounds_toArray, List.set_cons_zero, List.set_cons_succ]
      refine wpAnyH_ready (rs := [6]) (by kernel_rfl) (by simp) ?_
      refine AllReadyH.cons rfl (fun K hK => ?_) AllReadyH.nil
      go_simp
      go_at_call 34
      refine (HH.out _).mono ?_
      rintro e w6 ⟨rfl, hb6⟩
      have b6 := b5.trans (hb6.mono b5.size)
      refine hK.out _ _ (HS.out _ b6) (fun hHeld => ?_)
      clear hK K
      try simp only [Act.put, List.getElem_toArray, List.getElem_cons_zero, List.getElem_cons_succ, List.setIfInBounds_toArray, List.set_cons_zero, List.set_cons_succ]
      refine wpAnyH_ready (rs := [7]) (by kernel_rfl) (by simp) ?_
      refine AllReadyH.cons rfl (fun K hK => ?_) AllReadyH.nil
      go_simp
      go_at_call 33
      refine (textRef_any _ _).mono ?_
      rintro e w7 ⟨rfl, hb7⟩
      have b7 := b6.trans (hb7.mono b6.size)
      refine hK.out _ _ (HS.out _ b7) (fun hHeld => ?_)
      clear hK K
      try simp only [Act.put, List.getElem_toArray, List.getElem_cons_zero, List.getElem_cons_succ, List.setIfInBounds_toArray, List.set_cons_zero, List.set_cons_succ]
      refine wpAnyH_ready (rs := [10]) (by kernel_rfl) (by simp) ?_
      refine AllReadyH.cons rfl (fun K hK => ?_) AllReadyH.nil
      go_simp
      go_at_call 33
      refine (textRef_any _ _).mono ?_
      rintro e w8 ⟨rfl, hb8⟩
      have b8 := b7.trans (hb8.mono b7.size)
      refine hK.out _ _ (HS.out _ b8) (fun hHeld => ?_)
      clear hK K
      try simp only [Act.put, List.getElem_toArray, List.getElem_cons_zero, List.getElem_cons_succ, List.setIfInBounds_toArray, List.set_cons_zero, List.set_cons_succ]
      refine wpAnyH_ready (rs := [13]) (by kernel_rfl) (by simp) ?_
      refine AllReadyH.cons rfl (fun K hK => ?_) AllReadyH.nil
      go_simp
      go_at_call 33
      refine (textRef_any _ _).mono ?_
      rintro e w9 ⟨rfl, hb9⟩
      have b9 := b8.trans (hb9.mono b8.size)
      refine hK.out _ _ (HS.out _ b9) (fun hHeld => ?_)
      clear hK K
      try simp only [Act.put, List.getElem_toArray, List.getElem_cons_zero, List.getElem_cons_succ, List.setIfInBounds_toArray, List.set_cons_zero, List.set_cons_succ]
      refine wpAnyH_ready (rs := [14]) (by kernel_rfl) (by simp) ?_
      refine AllReadyH.cons rfl (fun K hK => ?_) AllReadyH.nil
      go_simp
      have b10 := b9.alloc b9.size (.cells #[.bool false, .string ⟨nl.toArray⟩, .slice none 0 0, .bool false, .string ⟨sl.toArray⟩, .slice none 0 0, .bool false, .string root, .slice none 0 0, .bool false, .string code, .slice none 0 0] 51)
      refine hK.out _ _ (HS.out _ b10) (fun hHeld => ?_)
      clear hK K
      try simp only [Act.put, List.getElem_toArray, List.getElem_cons_zero, List.getElem_cons_succ, List.setIfInBounds_toArray, List.set_cons_zero, List.set_cons_succ]
      refine wpAnyH_ready (rs := [15]) (by kernel_rfl) (by simp) ?_
      refine AllReadyH.cons rfl (fun K hK => ?_) AllReadyH.nil
      go_simp
      go_at_call 39
      refine (listRef_any _ _ _ _).mono ?_
      rintro e w11 ⟨rfl, hb11⟩
      have b11 := b10.trans (hb11.mono b10.size)
      refine hK.out _ _ (HS.out _ b11) (fun hHeld => ?_)
      clear hK K
      try simp only [Act.put, List.getElem_toArray, List.getElem_cons_zero, List.getElem_cons_succ, List.setIfInBounds_toArray, List.set_cons_zero, List.set_cons_succ]
      have hE := Lib.hid (encode4Ref hb11 HE.out.1 HE.out.2)
      clear hb11
      refine wpAnyH_ready (rs := [16]) (by kernel_rfl) (by simp) ?_
      refine AllReadyH.cons rfl (fun K hK => ?_) AllReadyH.nil
      go_simp
      go_at_call 32
      refine (hE.out).mono ?_
      rintro e w12 ⟨rfl, hb12⟩
      have b12 := b11.trans (hb12.mono b11.size)
      refine hK.out _ _ (HS.out _ b12) (fun hHeld => ?_)
      clear hK K
      try simp only [Act.put, List.getElem_toArray, List.getElem_cons_zero, List.getElem_cons_succ, List.setIfInBounds_toArray, List.set_cons_zero, List.set_cons_succ]
      refine wpAnyH_take (i := 17) (v := .string ⟨pl.toArray⟩) rfl (by kernel_rfl) (by kernel_rfl) (by kernel_rfl) (fun _ _ _ h => h) (.inl ⟨by rfl, ?_⟩) (by assumption) ?_
      · intro w0 hSw
        go_simp
      simp only [Act.put, List.getElem_toArray, List.getElem_cons_zero, List.getElem_cons_succ, List.setIfInBounds_toArray, List.set_cons_zero, List.set_cons_succ]
      refine wpAnyH_take (i := 18) (v := .int .i64 0) rfl (by kernel_rfl) (by kernel_rfl) (by kernel_rfl) (fun _ _ _ h => h) (.inl ⟨by rfl, ?_⟩) (by assumption) ?_
      · intro w0 hSw
        go_simp
      simp only [Act.put, List.getElem_toArray, List.getElem_cons_zero, List.getElem_cons_succ, List.setIfInBounds_toArray, List.set_cons_zero, List.set_cons_succ]
      refine wpAnyH_take (i := 19) (v := .string ⟨pl.toArray⟩) rfl (by kernel_rfl) (by kernel_rfl) (by kernel_rfl) (fun _ _ _ h => h) (.inl ⟨by rfl, ?_⟩) (by assumption) ?_
      · intro w0 hSw
        go_simp
      simp only [Act.put, List.getElem_toArray, List.getElem_cons_zero, List.getElem_cons_succ, List.setIfInBounds_toArray, List.set_cons_zero, List.set_cons_succ]
      refine wpAnyH_take (i := 20) (v := .int .i64 0) rfl (by kernel_rfl) (by kernel_rfl) (by kernel_rfl) (fun _ _ _ h => h) (.inl ⟨by rfl, ?_⟩) (by assumption) ?_
      · intro w0 hSw
        go_simp
      simp only [Act.put, List.getElem_toArray, List.getElem_cons_zero, List.getElem_cons_succ, List.setIfInBounds_toArray, List.set_cons_zero, List.set_cons_succ]
      refine wpAnyH_done (by kernel_rfl) ?_ 0
      go_wp2
      go_ret2
      exact ⟨rfl, HB3.out.trans (b12.mono HB3.out.size)⟩
    · have e1 : acctBytes n b root.data.toList code.data.toList = ([], 160) := by unfold acctBytes; rw [if_pos (.inr (by omega))]
      rw [e1]
      have h1 : ((root.size : Int) != 32) = false := by rw [hr]; rfl
      have h2 : ((code.size : Int) != 32) = true := by rw [bne_iff_ne]; omega
      clear hw ha hrl hcl hr hc hn e1
      go_enter Tryd.func20, Tryd.ntmps20
      go_wp2
      go_ret2
      exact ⟨rfl, laid1 w _⟩
  · have e1 : acctBytes n b root.data.toList code.data.toList = ([], 160) := by unfold acctBytes; rw [if_pos (.inl (by omega))]
    rw [e1]
    have h1 : ((root.size : Int) != 32) = true := by rw [bne_iff_ne]; omega
    clear hw ha hrl hcl hr hn e1
    go_enter Tryd.func20, Tryd.ntmps20
    go_wp2
    go_ret2
    exact ⟨rfl, laid1 w _⟩
end Go.Proofs.YtmjblnhnadffmaaDoor

/- Contract of the reference's From of accounts. -/
namespace Go.Proofs.YtmjblnhnadffmaaDoor
open Go.RowKit Go.Shelf Go.Lib
attribute [local go_sem] Oper.semAt_some

set_option maxRecDepth 100000 in
set_option maxHeartbeats 12800000 in
theorem acctFromRef_any (s : List UInt8) (w : World) (hs : s.length ≤ 1099511627776) : Calls Tryd.prog 21 #[.string ⟨s.toArray⟩] w fun e w' => e = .returned (.tuple #[acctOf s, .int .i64 (acctErr s)]) ∧ Below w.heap.size w w' := by
  obtain ⟨x, n, hx⟩ : ∃ x n, decode s = (x, n) := ⟨_, _, rfl⟩
  obtain ⟨V, hV⟩ : ∃ V, acctOf s = V := ⟨_, rfl⟩
  obtain ⟨E, hE⟩ : ∃ E, acctErr s = E := ⟨_, rfl⟩
  have HBAD := Lib.hid (fun h : acctB x n = false => hV ▸ hE ▸ acct_bad hx h)
  have HGOOD := Lib.hid (fun h : acctB x n = true => hV ▸ hE ▸ acct_good hx h)
  rw [hV, hE]
  have H1 := Lib.hid (fun W => decodeRef_lit hx hs W)
  have hcase : (n = 40 ∨ n = 41 ∨ n = 42) ∨ n = 0 := by
    rcases decode_cases s with ⟨y, e⟩ | e | e | e <;> (have e2 := e.symm.trans hx; cases e2; simp)
  have hXL : x.list.length ≤ 1099511627775 ∧ ∀ i, i < 4 → (aT x i).length ≤ 1099511627776 := ⟨by have := decode_list_len hx; omega, fun i _ => by have := aT_len hx i; omega⟩
  have HX := Lib.hid hXL
  obtain ⟨m, hm⟩ : ∃ m, x.list.length = m := ⟨_, rfl⟩
  have HM := Lib.hid hm
  clear hV hE hx hXL hm
  go_enter Tryd.func21, Tryd.ntmps21
  go_wp2_with fail
  refine (H1.out _).mono ?_
  rintro e w1 ⟨hb1, p, c, rfl, HR⟩
  have hr1 := HR.out
  obtain ⟨okb, hok⟩ : ∃ b, (x.isList && (decide (x.list.length = 4) && allText x.list)) = b := ⟨_, rfl⟩
  have HT := Lib.hid (fun W (hb : Below w1.heap.size w1 W) => textsRef_any x 4 p c W (hr1.below hb hb.size) HX.out.1)
  rw [hok] at HT
  have HOK := Lib.hid hok
  have HC1 := Lib.hid ((HasCells.new w acctZ 32).after hb1)
  have HB1 := Lib.hid ((laid1 w (.cells acctZ.toArray 32)).trans (hb1.mono (by simp)))
  unfold bytesT at HT
  obtain ⟨isl, hisl⟩ : ∃ l, x.isList = l := ⟨_, rfl⟩
  obtain ⟨t, htt⟩ : ∃ t, x.text = t := ⟨_, rfl⟩
  rw [hisl, htt] at HT ⊢
  rw [HM.out] at HT HR ⊢
  have HISL := Lib.hid hisl
  have HRR := Lib.hid HR.out
  clear hr1 HR hb1 hisl htt H1 hok
  have HSZ := Lib.hid (show w.heap.size + 1 ≤ w1.heap.size from by have := HC1.out.lt; omega)
  have hba := laid1 w1 (.cells #[.bool isl, .string ⟨t.toArray⟩, .slice p m c] 51)
  have HBA := Lib.hid hba
  have HB2 := Lib.hid (HB1.out.trans (hba.mono HB1.out.size))
  have HC2 := Lib.hid (HC1.out.alloc (.cells #[.bool isl, .string ⟨t.toArray⟩, .slice p m c] 51))
  clear hba
  rcases hcase with hcase | rfl
  · rcases hcase with rfl | rfl | rfl
    · go_wp2_with ((with_reducible refine store_gateK 32 ?_); refine wpList_store_mid rfl 32 _ _ rfl w.heap.size 0 acctZ.toArray rfl rfl (HC2.out.there 0 _ (by decide)) infoAcct acctZ_one ?_)
      have hf := HC2.out.sets acctZ 0
      obtain ⟨e1, e2⟩ := HBAD.out (by unfold acctB acctShape; simp)
      refine bodyPost_ret (results_cells2 rfl _ _ w.heap.size acctZ _ (by rfl) hf.range Tryd.underlying32 rfl infoAcct) rfl ⟨?_, HB2.out.trans (sets_belowK (Nat.le_refl _) _ _ _)⟩
      rw [e1, e2]
      rfl
    · go_wp2_with ((with_reducible refine store_gateK 32 ?_); refine wpList_store_mid rfl 32 _ _ rfl w.heap.size 0 acctZ.toArray rfl rfl (HC2.out.there 0 _ (by decide)) infoAcct acctZ_one ?_)
      have hf := HC2.out.sets acctZ 0
      obtain ⟨e1, e2⟩ := HBAD.out (by unfold acctB acctShape; simp)
      refine bodyPost_ret (results_cells2 rfl _ _ w.heap.size acctZ _ (by rfl) hf.range Tryd.underlying32 rfl infoAcct) rfl ⟨?_, HB2.out.trans (sets_belowK (Nat.le_refl _) _ _ _)⟩
      rw [e1, e2]
      rfl
    · go_wp2_with ((with_reducible refine store_gateK 32 ?_); refine wpList_store_mid rfl 32 _ _ rfl w.heap.size 0 acctZ.toArray rfl rfl (HC2.out.there 0 _ (by decide)) infoAcct acctZ_one ?_)
      have hf := HC2.out.sets acctZ 0
      obtain ⟨e1, e2⟩ := HBAD.out (by unfold acctB acctShape; simp)
      refine bodyPost_ret (results_cells2 rfl _ _ w.heap.size acctZ _ (by rfl) hf.range Tryd.underlying32 rfl infoAcct) rfl ⟨?_, HB2.out.trans (sets_belowK (Nat.le_refl _) _ _ _)⟩
      rw [e1, e2]
      rfl
  · go_wp2_with fail
    refine (HT.out _ HBA.out).mono ?_
    rintro e w3 ⟨rfl, hb3⟩
    have HB3 := Lib.hid (HB2.out.trans (hb3.mono HB2.out.size))
    have HC3 := Lib.hid (HC2.out.after hb3)
    have HIT := Lib.hid (show HasCells w3 w1.heap.size [.bool isl, .string ⟨t.toArray⟩, .slice p m c] 51 from (HasCells.new w1 [.bool isl, .string ⟨t.toArray⟩, .slice p m c] 51).after hb3)
    have HB13 := Lib.hid (show Below w1.heap.size w1 w3 from HBA.out.trans (hb3.mono HBA.out.size))
    clear hb3 HB1 HB2 HC2 HT HBA
    cases okb with
    | false =>
      go_wp2_with ((with_reducible refine store_gateK 32 ?_); refine wpList_store_mid rfl 32 _ _ rfl w.heap.size 0 acctZ.toArray rfl rfl (HC3.out.there 0 _ (by decide)) infoAcct acctZ_one ?_)
      have hf := HC3.out.sets acctZ 0
      obtain ⟨e1, e2⟩ := HBAD.out (by have h := HOK.out; unfold acctB acctShape textsB; rw [show (decide ((0 : Int) = 0) && ((allText x.list && x.isList) && decide (x.list.length = 4))) = (x.isList && (decide (x.list.length = 4) && allText x.list)) from by simp [Bool.and_comm, Bool.and_left_comm], h]; rfl)
      refine bodyPost_ret (results_cells2 rfl _ _ w.heap.size acctZ _ (by rfl) hf.range Tryd.underlying32 rfl infoAcct) rfl ⟨?_, HB3.out.trans (sets_belowK (Nat.le_refl _) _ _ _)⟩
      rw [e1, e2]
      rfl
    | true =>
      have hok := HOK.out
      simp only [Bool.and_eq_true, decide_eq_true_eq] at hok
      obtain ⟨h1, h4, hat⟩ := hok
      obtain rfl : isl = true := HISL.out.symm.trans h1
      obtain rfl : m = 4 := HM.out.symm.trans h4
      have HAT := Lib.hid hat
      obtain ⟨-, g, o, rfl, hg, hcell⟩ := Reads.at HRR.out (by decide)
      have hcell2 : ∀ j, j < 4 → w1.cell? ⟨g, o + j * 3 + 1, none⟩ = some (.string ⟨(aT x j).toArray⟩) := fun j hj => by
        have h : j < x.list.length := by rw [HM.out]; exact hj
        obtain ⟨_, h2, _⟩ := hcell j _ (List.getElem?_eq_getElem h)
        rw [h2]
        unfold aT
        rw [List.getD_eq_getElem?_getD, List.getElem?_eq_getElem h]
        rfl
      obtain ⟨t0, ht0⟩ : ∃ t, aT x 0 = t := ⟨_, rfl⟩
      obtain ⟨t1, ht1⟩ : ∃ t, aT x 1 = t := ⟨_, rfl⟩
      obtain ⟨r2, hr2⟩ : ∃ r : ByteArray, ⟨(aT x 2).toArray⟩ = r := ⟨_, rfl⟩
      obtain ⟨r3, hr3⟩ : ∃ r : ByteArray, ⟨(aT x 3).toArray⟩ = r := ⟨_, rfl⟩
      have c0 := hcell2 0 (by decide)
      have c1 := hcell2 1 (by decide)
      have c2 := hcell2 2 (by decide)
      have c3 := hcell2 3 (by decide)
      rw [ht0] at c0
      rw [ht1] at c1
      rw [hr2] at c2
      rw [hr3] at c3
      have s2 : (aT x 2).length = r2.size := by rw [← hr2]; rfl
      have s3 : (aT x 3).length = r3.size := by rw [← hr3]; rfl
      obtain ⟨b, hb⟩ : ∃ b, isShortW t1 = b := ⟨_, rfl⟩
      obtain ⟨v, hv⟩ : ∃ v, wordOf t1 = v := ⟨_, rfl⟩
      have HW := Lib.hid (fun W => wordOfRef_lit hv hb (by rw [← ht1]; exact HX.out.2 1 (by decide)) W)
      obtain ⟨x0, x1, x2, x3, hw, -⟩ := wordV_form v
      rw [hw] at HW
      obtain ⟨nv, ev, hve⟩ : ∃ a b, value t0 = (a, b) := ⟨_, _, rfl⟩
      have hvv : valueV t0 = .tuple #[.int .u64 nv, .int .i64 ev] := by unfold valueV; rw [hve]
      have HVV := Lib.hid (fun W => valueRefA_lit ⟨t0.toArray⟩ hvv W)
      have hnums : acctB x 0 = (decide (ev = 0) && (b && (decide (r2.size = 32) && decide (r3.size = 32)))) := by
        unfold acctB acctShape textsB acctNums
        rw [HAT.out, HISL.out, HM.out, ht0, ht1, hve, hb, s2, s3]
        simp
      have HNUMS := Lib.hid hnums
      have hgood : acctB x 0 = true → V = .agg (acctL nv x0 x1 x2 x3 r2 r3).toArray ∧ E = 0 := fun h => by
        obtain ⟨e1, e2⟩ := HGOOD.out h
        rw [ht0, ht1, hve, hv, hr2, hr3] at e1
        exact ⟨by rw [e1]; exact (acctL_val hw nv r2 r3).symm, e2⟩
      have HG := Lib.hid hgood
      have HCS := Lib.hid (fun W (hb : Below w1.heap.size w1 W) => (show W.cell? ⟨g, o + 1, none⟩ = some (.string ⟨t0.toArray⟩) ∧ W.cell? ⟨g, o + 4, none⟩ = some (.string ⟨t1.toArray⟩) ∧ W.cell? ⟨g, o + 7, none⟩ = some (.string r2) ∧ W.cell? ⟨g, o + 10, none⟩ = some (.string r3) from
        ⟨(hb.cell (p := ⟨g, o + 1, none⟩) hg).trans c0, (hb.cell (p := ⟨g, o + 4, none⟩) hg).trans c1, (hb.cell (p := ⟨g, o + 7, none⟩) hg).trans c2, (hb.cell (p := ⟨g, o + 10, none⟩) hg).trans c3⟩))
      have hgw : g ≠ w.heap.size := fun e => by
        have h := HC1.out
        have hl : 0 < x.list.length := by rw [HM.out]; decide
        obtain ⟨h0, _⟩ := hcell 0 _ (List.getElem?_eq_getElem hl)
        rw [e, World.cell?, show w1.heap[w.heap.size]? = _ from h] at h0
        simp only [List.getElem?_toArray] at h0
        have h4 := List.mem_of_getElem? h0
        simp [acctZ] at h4
      have HGW := Lib.hid hgw
      have hev : ev = 0 ∨ ¬ ev = 0 := by omega
      have i2 := HIT.out.cell (j := 2) rfl
      obtain ⟨c0, c1, c2, c3⟩ := HCS.out w3 HB13.out
      clear hcell hcell2 s2 s3 ht0 ht1 hr2 hr3 hb hv hve hvv hnums hgood hw hat h1 h4
      go_wp2_with fail
      refine (HVV.out _).mono ?_
      rintro e w4 ⟨rfl, rfl⟩
      go_wp2_with fail
      refine (HW.out _).mono ?_
      rintro e w5 ⟨rfl, hb5⟩
      have HB5 := Lib.hid (HB3.out.trans (hb5.mono HB3.out.size))
      have HC5 := Lib.hid (HC3.out.after hb5)
      have HI5 := Lib.hid (HIT.out.after hb5)
      have HB15 := Lib.hid (HB13.out.trans (hb5.mono HB13.out.size))
      clear hb5 i2 HB3 HC3 HIT HB13 c0 c1 c2 c3
      obtain ⟨w6, hw6⟩ : ∃ W, w5.alloc (.cells #[.int .u64 x0, .int .u64 x1, .int .u64 x2, .int .u64 x3] 24) = W := ⟨_, rfl⟩
      have hb6 : Below w5.heap.size w5 w6 := by rw [← hw6]; exact laid1 w5 _
      have HB6 := Lib.hid (HB5.out.trans (hb6.mono HB5.out.size))
      have HC6 := Lib.hid (HC5.out.after hb6)
      have HI6 := Lib.hid (HI5.out.after hb6)
      have HB16 := Lib.hid (HB15.out.trans (hb6.mono HB15.out.size))
      have HW6 := Lib.hid (show HasCells w6 w5.heap.size [.int .u64 x0, .int .u64 x1, .int .u64 x2, .int .u64 x3] 24 from by rw [← hw6]; exact HasCells.new _ _ _)
      have HWE := Lib.hid hw6
      have HSZ5 := Lib.hid (show w.heap.size < w5.heap.size ∧ w1.heap.size < w5.heap.size from ⟨HC5.out.lt, HI5.out.lt⟩)
      have i2 := HI6.out.cell (j := 2) rfl
      obtain ⟨c0, c1, c2, c3⟩ := HCS.out w6 HB16.out
      clear hb6 hw6
      rcases hev with rfl | hev
      · cases b with
        | false =>
          go_wp2_with (first | rw [HWE.out] | ((with_reducible refine store_gateK 32 ?_); refine wpList_store_mid rfl 32 _ _ rfl w.heap.size 0 acctZ.toArray rfl rfl (HC6.out.there 0 _ (by decide)) infoAcct acctZ_one ?_))
          have hf := HC6.out.sets acctZ 0
          obtain ⟨e1, e2⟩ := HBAD.out (by rw [HNUMS.out]; simp)
          refine bodyPost_ret (results_cells2 rfl _ _ w.heap.size acctZ _ (by rfl) hf.range Tryd.underlying32 rfl infoAcct) rfl ⟨?_, HB6.out.trans (sets_belowK (Nat.le_refl _) _ _ _)⟩
          rw [e1, e2]
          rfl
        | true =>
          by_cases h2 : r2.size = 32
          · by_cases h3 : r3.size = 32
            · have l2 : ((r2.size : Int) != 32) = false := by rw [h2]; rfl
              have l3 : ((r3.size : Int) != 32) = false := by rw [h3]; rfl
              have hgd := HG.out (by rw [HNUMS.out, h2, h3]; rfl)
              have HGD := Lib.hid hgd
              clear hgd h2 h3
              go_wp2_with (rw [HWE.out])
              have HS0 := Lib.hid (show (w6.drew.cell? ⟨w1.heap.size, 2, none⟩ = some (.slice (some ⟨g, o, none⟩) 4 c) ∧ w6.drew.cell? ⟨g, o + 7, none⟩ = some (.string r2) ∧ w6.drew.cell? ⟨g, o + 10, none⟩ = some (.string r3)) ∧ w6.drew.cell? ⟨w5.heap.size, 0, none⟩ = some (.int .u64 x0) ∧ w6.drew.cell? ⟨w5.heap.size, 1, none⟩ = some (.int .u64 x1) ∧ w6.drew.cell? ⟨w5.heap.size, 2, none⟩ = some (.int .u64 x2) ∧ w6.drew.cell? ⟨w5.heap.size, 3, none⟩ = some (.int .u64 x3) from ⟨⟨i2, c2, c3⟩, HW6.out.cell (j := 0) rfl, HW6.out.cell (j := 1) rfl, HW6.out.cell (j := 2) rfl, HW6.out.cell (j := 3) rfl⟩)
              refine wp_region_held_drew (S := (fun W => (W.cell? ⟨w1.heap.size, 2, none⟩ = some (.slice (some ⟨g, o, none⟩) 4 c) ∧ W.cell? ⟨g, o + 7, none⟩ = some (.string r2) ∧ W.cell? ⟨g, o + 10, none⟩ = some (.string r3)) ∧ W.cell? ⟨w5.heap.size, 0, none⟩ = some (.int .u64 x0) ∧ W.cell? ⟨w5.heap.size, 1, none⟩ = some (.int .u64 x1) ∧ W.cell? ⟨w5.heap.size, 2, none⟩ = some (.int .u64 x2) ∧ W.cell? ⟨w5.heap.size, 3, none⟩ = some (.int .u64 x3))) (by kernel_rfl) (HS0.out) (fun hHeld => ?_)
              refine wpAnyH_take (i := 0) (v := ?_) rfl (by kernel_rfl) (by kernel_rfl) (by kernel_rfl) (fun _ _ _ h => h) (.inl ⟨by rfl, ?_⟩) (by assumption) ?_
              rotate_left 1
              · intro w0 hSw
                go_simp <;> with_reducible rfl
              try simp only [Act.put, List.getElem_toArray, List.getElem_cons_zero, List.setIfInBounds_toArray, List.set_cons_zero, List.set_cons_succ]
              refine wpAnyH_take (i := 1) (v := ?_) rfl (by kernel_rfl) (by kernel_rfl) (by kernel_rfl) (fun _ _ _ h => h) (.inl ⟨by rfl, ?_⟩) (by assumption) ?_
              rotate_left 1
              · intro w0 hSw
                obtain ⟨⟨z0, z1, z2⟩, z3, z4, z5, z6⟩ := hSw
                go_simp <;> with_reducible rfl
              try simp only [Act.put, List.getElem_toArray, List.getElem_cons_zero, List.getElem_cons_succ, List.setIfInBounds_toArray, List.set_cons_zero, List.set_cons_succ]
              refine wpAnyH_take (i := 2) (v := ?_) rfl (by kernel_rfl) (by kernel_rfl) (by kernel_rfl) (fun _ _ _ h => h) (.inl ⟨by rfl, ?_⟩) (by assumption) ?_
              rotate_left 1
              · intro w0 hSw
                go_simp <;> with_reducible rfl
              try simp only [Act.put, List.getElem_toArray, List.getElem_cons_zero, List.getElem_cons_succ, List.setIfInBounds_toArray, List.set_cons_zero, List.set_cons_succ]
              refine wpAnyH_take (i := 3) (v := ?_) rfl (by kernel_rfl) (by kernel_rfl) (by kernel_rfl) (fun _ _ _ h => h) (.inl ⟨by rfl, ?_⟩) (by assumption) ?_
              rotate_left 1
              · intro w0 hSw
                obtain ⟨⟨z0, z1, z2⟩, z3, z4, z5, z6⟩ := hSw
                go_simp <;> with_reducible rfl
              try simp only [Act.put, List.getElem_toArray, List.getElem_cons_zero, List.getElem_cons_succ, List.setIfInBounds_toArray, List.set_cons_zero, List.set_cons_succ]
              refine wpAnyH_take (i := 4) (v := ?_) rfl (by kernel_rfl) (by kernel_rfl) (by kernel_rfl) (fun _ _ _ h => h) (.inl ⟨by rfl, ?_⟩) (by assumption) ?_
              rotate_left 1
              · intro w0 hSw
                go_simp <;> with_reducible rfl
              try simp only [Act.put, List.getElem_toArray, List.getElem_cons_zero, List.getElem_cons_succ, List.setIfInBounds_toArray, List.set_cons_zero, List.set_cons_succ]
              refine wpAnyH_take (i := 5) (v := ?_) rfl (by kernel_rfl) (by kernel_rfl) (by kernel_rfl) (fun _ _ _ h => h) (.inl ⟨by rfl, ?_⟩) (by assumption) ?_
              rotate_left 1
              · intro w0 hSw
                go_simp <;> with_reducible rfl
              try simp only [Act.put, List.getElem_toArray, List.getElem_cons_zero, List.getElem_cons_succ, List.setIfInBounds_toArray, List.set_cons_zero, List.set_cons_succ]
              refine wpAnyH_take (i := 6) (v := ?_) rfl (by kernel_rfl) (by kernel_rfl) (by kernel_rfl) (fun _ _ _ h => h) (.inl ⟨by rfl, ?_⟩) (by assumption) ?_
              rotate_left 1
              · intro w0 hSw
                obtain ⟨⟨z0, z1, z2⟩, z3, z4, z5, z6⟩ := hSw
                go_simp <;> with_reducible rfl
              try simp only [Act.put, List.getElem_toArray, List.getElem_cons_zero, List.getElem_cons_succ, List.setIfInBounds_toArray, List.set_cons_zero, List.set_cons_succ]
              refine wpAnyH_take (i := 7) (v := ?_) rfl (by kernel_rfl) (by kernel_rfl) (by kernel_rfl) (fun _ _ _ h => h) (.inl ⟨by rfl, ?_⟩) (by assumption) ?_
              rotate_left 1
              · intro w0 hSw
                go_simp <;> with_reducible rfl
              try simp only [Act.put, List.getElem_toArray, List.getElem_cons_zero, List.getElem_cons_succ, List.setIfInBounds_toArray, List.set_cons_zero, List.set_cons_succ]
              refine wpAnyH_take (i := 8) (v := ?_) rfl (by kernel_rfl) (by kernel_rfl) (by kernel_rfl) (fun _ _ _ h => h) (.inl ⟨by rfl, ?_⟩) (by assumption) ?_
              rotate_left 1
              · intro w0 hSw
                obtain ⟨⟨z0, z1, z2⟩, z3, z4, z5, z6⟩ := hSw
                go_simp <;> with_reducible rfl
              try simp only [Act.put, List.getElem_toArray, List.getElem_cons_zero, List.getElem_cons_succ, List.setIfInBounds_toArray, List.set_cons_zero, List.set_cons_succ]
              refine wpAnyH_take (i := 9) (v := ?_) rfl (by kernel_rfl) (by kernel_rfl) (by kernel_rfl) (fun _ _ _ h => h) (.inl ⟨by rfl, ?_⟩) (by assumption) ?_
              rotate_left 1
              · intro w0 hSw
                go_simp <;> with_reducible rfl
              try simp only [Act.put, List.getElem_toArray, List.getElem_cons_zero, List.getElem_cons_succ, List.setIfInBounds_toArray, List.set_cons_zero, List.set_cons_succ]
              refine wpAnyH_take (i := 10) (v := ?_) rfl (by kernel_rfl) (by kernel_rfl) (by kernel_rfl) (fun _ _ _ h => h) (.inl ⟨by rfl, ?_⟩) (by assumption) ?_
              rotate_left 1
              · intro w0 hSw
                go_simp <;> with_reducible rfl
              try simp only [Act.put, List.getElem_toArray, List.getElem_cons_zero, List.getElem_cons_succ, List.setIfInBounds_toArray, List.set_cons_zero, List.set_cons_succ]
              refine wpAnyH_take (i := 11) (v := ?_) rfl (by kernel_rfl) (by kernel_rfl) (by kernel_rfl) (fun _ _ _ h => h) (.inl ⟨by rfl, ?_⟩) (by assumption) ?_
              rotate_left 1
              · intro w0 hSw
                obtain ⟨⟨z0, z1, z2⟩, z3, z4, z5, z6⟩ := hSw
                go_simp <;> with_reducible rfl
              try simp only [Act.put, List.getElem_toArray, List.getElem_cons_zero, List.getElem_cons_succ, List.setIfInBounds_toArray, List.set_cons_zero, List.set_cons_succ]
              refine wpAnyH_take (i := 12) (v := ?_) rfl (by kernel_rfl) (by kernel_rfl) (by kernel_rfl) (fun _ _ _ h => h) (.inl ⟨by rfl, ?_⟩) (by assumption) ?_
              rotate_left 1
              · intro w0 hSw
                go_simp <;> with_reducible rfl
              try simp only [Act.put, List.getElem_toArray, List.getElem_cons_zero, List.getElem_cons_succ, List.setIfInBounds_toArray, List.set_cons_zero, List.set_cons_succ]
              refine wpAnyH_ready (rs := [13]) (by kernel_rfl) (by simp) ?_
              refine AllReadyH.cons rfl (fun K hK => ?_) AllReadyH.nil
              refine step_storeK (by rfl) 32 _ _ rfl w.heap.size 0 (acctL nv x0 x1 x2 x3 r2 r3).toArray rfl (by rfl) (HC6.out.there 0 _ (by rw [List.size_toArray, acctL_len]; decide)) (by rw [List.size_toArray, acctL_len]; exact infoAcct) (acctL_one _ _ _ _ _ _ _) ?_
              refine hK.out _ _ (⟨⟨(World.cell?_of_block (a := ⟨w1.heap.size, 2, none⟩) (heap_setCells_other _ _ _ _ _ (show w1.heap.size ≠ w.heap.size by have := HSZ.out; have := HSZ5.out; have := HGW.out; omega))).trans hHeld.1.1, (World.cell?_of_block (a := ⟨g, o + 7, none⟩) (heap_setCells_other _ _ _ _ _ (show g ≠ w.heap.size by have := HSZ.out; have := HSZ5.out; have := HGW.out; omega))).trans hHeld.1.2.1, (World.cell?_of_block (a := ⟨g, o + 10, none⟩) (heap_setCells_other _ _ _ _ _ (show g ≠ w.heap.size by have := HSZ.out; have := HSZ5.out; have := HGW.out; omega))).trans hHeld.1.2.2⟩, (World.cell?_of_block (a := ⟨w5.heap.size, 0, none⟩) (heap_setCells_other _ _ _ _ _ (show w5.heap.size ≠ w.heap.size by have := HSZ.out; have := HSZ5.out; have := HGW.out; omega))).trans hHeld.2.1, (World.cell?_of_block (a := ⟨w5.heap.size, 1, none⟩) (heap_setCells_other _ _ _ _ _ (show w5.heap.size ≠ w.heap.size by have := HSZ.out; have := HSZ5.out; have := HGW.out; omega))).trans hHeld.2.2.1, (World.cell?_of_block (a := ⟨w5.heap.size, 2, none⟩) (heap_setCells_other _ _ _ _ _ (show w5.heap.size ≠ w.heap.size by have := HSZ.out; have := HSZ5.out; have := HGW.out; omega))).trans hHeld.2.2.2.1, (World.cell?_of_block (a := ⟨w5.heap.size, 3, none⟩) (heap_setCells_other _ _ _ _ _ (show w5.heap.size ≠ w.heap.size by have := HSZ.out; have := HSZ5.out; have := HGW.out; omega))).trans hHeld.2.2.2.2⟩) (fun hHeld => ?_)
              clear hK K
              simp only [Act.put, List.getElem_toArray, List.getElem_cons_zero, List.getElem_cons_succ]
              refine wpAnyH_take (i := 14) (v := ?_) rfl (by kernel_rfl) (by kernel_rfl) (by kernel_rfl) (fun _ _ _ h => h) (.inl ⟨by rfl, ?_⟩) (by assumption) ?_
              rotate_left 1
              · intro w0 hSw
                go_simp <;> with_reducible rfl
              try simp only [Act.put, List.getElem_toArray, List.getElem_cons_zero, List.getElem_cons_succ, List.setIfInBounds_toArray, List.set_cons_zero, List.set_cons_succ]
              refine wpAnyH_done (by kernel_rfl) ?_ 0
              go_wp2_with fail
              have hf := HC6.out.sets (acctL nv x0 x1 x2 x3 r2 r3) 0
              rw [acctL_spl] at hf
              refine bodyPost_ret (results_cells2 rfl _ _ w.heap.size (acctL nv x0 x1 x2 x3 r2 r3) _ (by rfl) (show HasCells (w6.drew.setCells _ _ _) _ _ _ from (HC6.out.kept rfl : HasCells w6.drew _ _ _).sets (acctL nv x0 x1 x2 x3 r2 r3) 0).range Tryd.underlying32 rfl (by rw [acctL_len]; exact infoAcct)) rfl ⟨?_, (HB6.out.drew).trans (sets_belowK (Nat.le_refl _) _ _ _)⟩
              rw [HGD.out.1, HGD.out.2]
              rfl
            · have l2 : ((r2.size : Int) != 32) = false := by rw [h2]; rfl
              have l3 : ((r3.size : Int) != 32) = true := by simp; omega
              have H3 := Lib.hid h3
              clear h2 h3
              go_wp2_with (first | rw [HWE.out] | ((with_reducible refine store_gateK 32 ?_); refine wpList_store_mid rfl 32 _ _ rfl w.heap.size 0 acctZ.toArray rfl rfl (HC6.out.there 0 _ (by decide)) infoAcct acctZ_one ?_))
              have hf := HC6.out.sets acctZ 0
              obtain ⟨e1, e2⟩ := HBAD.out (by rw [HNUMS.out]; simp [H3.out])
              refine bodyPost_ret (results_cells2 rfl _ _ w.heap.size acctZ _ (by rfl) hf.range Tryd.underlying32 rfl infoAcct) rfl ⟨?_, HB6.out.trans (sets_belowK (Nat.le_refl _) _ _ _)⟩
              rw [e1, e2]
              rfl
          · have l2 : ((r2.size : Int) != 32) = true := by simp; omega
            have H2 := Lib.hid h2
            clear h2
            go_wp2_with (first | rw [HWE.out] | ((with_reducible refine store_gateK 32 ?_); refine wpList_store_mid rfl 32 _ _ rfl w.heap.size 0 acctZ.toArray rfl rfl (HC6.out.there 0 _ (by decide)) infoAcct acctZ_one ?_))
            have hf := HC6.out.sets acctZ 0
            obtain ⟨e1, e2⟩ := HBAD.out (by rw [HNUMS.out]; simp [H2.out])
            refine bodyPost_ret (results_cells2 rfl _ _ w.heap.size acctZ _ (by rfl) hf.range Tryd.underlying32 rfl infoAcct) rfl ⟨?_, HB6.out.trans (sets_belowK (Nat.le_refl _) _ _ _)⟩
            rw [e1, e2]
            rfl
      · have HEV := Lib.hid hev
        go_wp2_with (first | rw [HWE.out] | ((with_reducible refine store_gateK 32 ?_); refine wpList_store_mid rfl 32 _ _ rfl w.heap.size 0 acctZ.toArray rfl rfl (HC6.out.there 0 _ (by decide)) infoAcct acctZ_one ?_))
        have hf := HC6.out.sets acctZ 0
        obtain ⟨e1, e2⟩ := HBAD.out (by rw [HNUMS.out]; simp [HEV.out])
        refine bodyPost_ret (results_cells2 rfl _ _ w.heap.size acctZ _ (by rfl) hf.range Tryd.underlying32 rfl infoAcct) rfl ⟨?_, HB6.out.trans (sets_belowK (Nat.le_refl _) _ _ _)⟩
        rw [e1, e2]
        rfl
end Go.Proofs.YtmjblnhnadffmaaDoor
