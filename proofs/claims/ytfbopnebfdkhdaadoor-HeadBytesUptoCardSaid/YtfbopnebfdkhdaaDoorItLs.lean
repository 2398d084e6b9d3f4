/- pharosref13.light's region 4: a variable is laid at any time among its calls. -/
import Derived.Test.YtfbopnebfdkhdaaDoorItLr
namespace Go.Proofs.YtfbopnebfdkhdaaDoor
open Go.RowKit Go.Shelf Go.Lib
attribute [local go_sem] Oper.semAt_some

theorem three_same {W : World} {g : Nat} {u0 u1 u2 : Value} (p0 : W.cell? ⟨g, 0, none⟩ = some u0) (p1 : W.cell? ⟨g, 1, none⟩ = some u1) (p2 : W.cell? ⟨g, 2, none⟩ = some u2) (v0 v1 v2 : Value) :
    (((W.setCell ⟨g, 0, none⟩ v0).setCell ⟨g, 1, none⟩ v1).setCell ⟨g, 2, none⟩ v2).cell? ⟨g, 0, none⟩ = some v0 ∧ (((W.setCell ⟨g, 0, none⟩ v0).setCell ⟨g, 1, none⟩ v1).setCell ⟨g, 2, none⟩ v2).cell? ⟨g, 1, none⟩ = some v1 ∧ (((W.setCell ⟨g, 0, none⟩ v0).setCell ⟨g, 1, none⟩ v1).setCell ⟨g, 2, none⟩ v2).cell? ⟨g, 2, none⟩ = some v2 := by
  refine ⟨by simp [go_sem, p0], by simp [go_sem, p1], by simp [go_sem, p2]⟩
theorem zero_three {w4 W : World} {b g : Nat} (hz : (w4.cell? ⟨b, 0, none⟩ = some (.bool false) ∧ w4.cell? ⟨b, 1, none⟩ = some (.string ⟨#[]⟩) ∧ w4.cell? ⟨b, 2, none⟩ = some (.slice none 0 0)) ∧ ∀ j, w4.frozen? ⟨b, j, none⟩ = false) (hb : Below w4.heap.size w4 W) (hB : b < w4.heap.size) (hne : b ≠ g) (v0 v1 v2 : Value) :
    ((((W.setCell ⟨g, 0, none⟩ v0).setCell ⟨g, 1, none⟩ v1).setCell ⟨g, 2, none⟩ v2).cell? ⟨b, 0, none⟩ = some (.bool false) ∧ (((W.setCell ⟨g, 0, none⟩ v0).setCell ⟨g, 1, none⟩ v1).setCell ⟨g, 2, none⟩ v2).cell? ⟨b, 1, none⟩ = some (.string ⟨#[]⟩) ∧ (((W.setCell ⟨g, 0, none⟩ v0).setCell ⟨g, 1, none⟩ v1).setCell ⟨g, 2, none⟩ v2).cell? ⟨b, 2, none⟩ = some (.slice none 0 0)) ∧
      ∀ j, (((W.setCell ⟨g, 0, none⟩ v0).setCell ⟨g, 1, none⟩ v1).setCell ⟨g, 2, none⟩ v2).frozen? ⟨b, j, none⟩ = false := by
  obtain ⟨⟨h0, h1, h2⟩, hf⟩ := hz
  refine ⟨⟨three_other ((hb.cell (p := ⟨b, 0, none⟩) hB).trans h0) hne _ _ _, three_other ((hb.cell (p := ⟨b, 1, none⟩) hB).trans h1) hne _ _ _, three_other ((hb.cell (p := ⟨b, 2, none⟩) hB).trans h2) hne _ _ _⟩, fun j => ?_⟩
  rw [World.frozen?_setCell, World.frozen?_setCell, World.frozen?_setCell]
  exact (hb.frozen (p := ⟨b, j, none⟩) hB).trans (hf j)
theorem keep_before {wi W : World} {lo : Nat} {v : Value} {xs : List Item} (h : RIn wi lo v xs) (hb : Below wi.heap.size wi W) (v0 v1 v2 : Value) : RIn (((W.setCell ⟨wi.heap.size, 0, none⟩ v0).setCell ⟨wi.heap.size, 1, none⟩ v1).setCell ⟨wi.heap.size, 2, none⟩ v2) lo v xs :=
  ReadsIn.kept h (fun g _ o hg hc => three_other ((hb.cell (p := ⟨g, o, none⟩) hg.2).trans hc) (by omega) _ _ _) (fun g hg => ⟨hg.1, by
    rw [World.size_setCell, World.size_setCell, World.size_setCell]
    exact Nat.lt_of_lt_of_le hg.2 hb.size⟩)
theorem keep_after {W : World} {g lo : Nat} {v : Value} {xs : List Item} (h : RIn W lo v xs) (hlo : g < lo) (v0 v1 v2 : Value) : RIn (((W.setCell ⟨g, 0, none⟩ v0).setCell ⟨g, 1, none⟩ v1).setCell ⟨g, 2, none⟩ v2) lo v xs := ((h.store hlo v0).store hlo v1).store hlo v2
set_option maxRecDepth 100000 in
set_option maxHeartbeats 20000000 in
theorem rlight_r4 (n m : Nat) (a b c d e : ByteArray) (k : Nat) (p : Option Addr) (l cp : Nat) (br : List ByteArray) (w : World) (hN : br.length ≤ 1048576) (hv : Strs w (.slice p l cp) br) (hk : k < 18446744073709551616) (g5 : Nat) (va : Value) (hva : ∃ p' n' c', va = .slice p' n' c') (u6 u7 u8 u9 u10 u11 u12 u13 u14 u15 u16 u17 u18 u19 u20 u21 u22 u23 u24 u25 u26 u27 u28 u29 u30 u31 u32 u33 u34 u35 u36 u37 u38 u39 u40 u41 u42 u43 u44 u45 : Value) (w4 : World) (HB4 : Hid (Below w.heap.size w w4)) (h5 : w.heap.size + 2 ≤ g5 ∧ g5 < w4.heap.size) (hz4 : w.heap.size + 4 ≤ w4.heap.size)
    (hc : (w4.cell? ⟨g5, 0, none⟩ = some (.bool true) ∧ w4.cell? ⟨g5, 1, none⟩ = some (.string ⟨#[]⟩) ∧ w4.cell? ⟨g5, 2, none⟩ = some (va)) ∧ w4.cell? ⟨w.heap.size, 8, none⟩ = some (.slice p l cp) ∧ w4.cell? ⟨w.heap.size + 3, 0, none⟩ = some (.string d) ∧ w4.cell? ⟨w.heap.size + 3, 1, none⟩ = some (.string e) ∧ w4.cell? ⟨w.heap.size + 3, 2, none⟩ = some (.int .u64 k))
    (HZ : Hid ((w4.cell? ⟨w.heap.size + 1, 0, none⟩ = some (.bool false) ∧ w4.cell? ⟨w.heap.size + 1, 1, none⟩ = some (.string ⟨#[]⟩) ∧ w4.cell? ⟨w.heap.size + 1, 2, none⟩ = some (.slice none 0 0)) ∧ ∀ j, w4.frozen? ⟨w.heap.size + 1, j, none⟩ = false))
    (HA : Hid (RIn w4 (w.heap.size + 2) va [itN n, itN m, itT a, itT b, itT c])) :
    rlight4.wp Tryd.prog (bodyPost Tryd.prog Tryd.f68 (GivesL w (lightItems n m a b c d e k br))) ⟨#[.agg #[.int .u64 n, .int .u64 m, .string a, .string b, .string c, .string d, .string e, .int .u64 k, .slice p l cp], .pointer (some ⟨w.heap.size, 0, none⟩), .pointer (some ⟨w.heap.size + 1, 0, none⟩), .pointer (some ⟨w.heap.size + 2, 0, none⟩), .pointer (some ⟨w.heap.size + 3, 0, none⟩), .pointer (some ⟨g5, 0, none⟩), u6, u7, u8, u9, u10, u11, u12, u13, u14, u15, u16, u17, u18, u19, u20, u21, u22, u23, u24, u25, u26, u27, u28, u29, u30, u31, u32, u33, u34, u35, u36, u37, u38, u39, u40, u41, u42, u43, u44, u45], []⟩ w4 := by
  have HK := Lib.hid (fun W => ritNumber_any k W hk)
  have HS := Lib.hid (fun W (hb : Below w4.heap.size w4 W) => (show (W.cell? ⟨g5, 0, none⟩ = some (.bool true) ∧ W.cell? ⟨g5, 1, none⟩ = some (.string ⟨#[]⟩) ∧ W.cell? ⟨g5, 2, none⟩ = some (va)) ∧ W.cell? ⟨w.heap.size, 8, none⟩ = some (.slice p l cp) ∧ W.cell? ⟨w.heap.size + 3, 0, none⟩ = some (.string d) ∧ W.cell? ⟨w.heap.size + 3, 1, none⟩ = some (.string e) ∧ W.cell? ⟨w.heap.size + 3, 2, none⟩ = some (.int .u64 k) from ⟨⟨(hb.cell (p := ⟨g5, 0, none⟩) h5.2).trans hc.1.1, (hb.cell (p := ⟨g5, 1, none⟩) h5.2).trans hc.1.2.1, (hb.cell (p := ⟨g5, 2, none⟩) h5.2).trans hc.1.2.2⟩, (hb.cell (p := ⟨w.heap.size, 8, none⟩) (by dsimp only; omega)).trans hc.2.1, (hb.cell (p := ⟨w.heap.size + 3, 0, none⟩) (by dsimp only; omega)).trans hc.2.2.1, (hb.cell (p := ⟨w.heap.size + 3, 1, none⟩) (by dsimp only; omega)).trans hc.2.2.2.1, (hb.cell (p := ⟨w.heap.size + 3, 2, none⟩) (by dsimp only; omega)).trans hc.2.2.2.2⟩))
  clear hc
  show Code.wp _ _ _ _ _
  dsimp only [rlight4, Tryd.f68]
  go_wp2_with fail
  rename_i hkk
  have b4 : Below w4.heap.size w4 w4.drew := (Below.refl _ _).drew
  refine wp_region_held_drew (S := (fun W => (W.cell? ⟨g5, 0, none⟩ = some (.bool true) ∧ W.cell? ⟨g5, 1, none⟩ = some (.string ⟨#[]⟩) ∧ W.cell? ⟨g5, 2, none⟩ = some (va)) ∧ W.cell? ⟨w.heap.size, 8, none⟩ = some (.slice p l cp) ∧ W.cell? ⟨w.heap.size + 3, 0, none⟩ = some (.string d) ∧ W.cell? ⟨w.heap.size + 3, 1, none⟩ = some (.string e) ∧ W.cell? ⟨w.heap.size + 3, 2, none⟩ = some (.int .u64 k))) (by kernel_rfl) (HS.out _ b4) (fun hHeld => ?_)
  refine wpAnyH_take (i := 0) (v := ?_) rfl (by kernel_rfl) (by kernel_rfl) (by kernel_rfl) (fun _ _ _ h => h) (.inl ⟨by rfl, ?_⟩) (by assumption) ?_
  rotate_left 1
  · intro w0 hSw
    go_simp <;> with_reducible rfl
  try simp only [Act.put, List.getElem_toArray, List.getElem_cons_zero, List.setIfInBounds_toArray, List.set_cons_zero, List.set_cons_succ]
  refine wpAnyH_take (i := 1) (v := ?_) rfl (by kernel_rfl) (by kernel_rfl) (by kernel_rfl) (fun _ _ _ h => h) (.inl ⟨by rfl, ?_⟩) (by assumption) ?_
  rotate_left 1
  · intro w0 hSw
    obtain ⟨⟨z0, z1, z2⟩, z3, z4, z5, z6⟩ := hSw
    go_simp <;> with_reducible rfl
  try simp only [Act.put, List.getElem_toArray, List.getElem_cons_zero, List.getElem_cons_succ, List.setIfInBounds_toArray, List.set_cons_zero, List.set_cons_succ]
  refine wpAnyH_take (i := 3) (v := ?_) rfl (by kernel_rfl) (by kernel_rfl) (by kernel_rfl) (fun _ _ _ h => h) (.inl ⟨by rfl, ?_⟩) (by assumption) ?_
  rotate_left 1
  · intro w0 hSw
    go_simp <;> with_reducible rfl
  try simp only [Act.put, List.getElem_toArray, List.getElem_cons_zero, List.getElem_cons_succ, List.setIfInBounds_toArray, List.set_cons_zero, List.set_cons_succ]
  refine wpAnyH_take (i := 4) (v := ?_) rfl (by kernel_rfl) (by kernel_rfl) (by kernel_rfl) (fun _ _ _ h => h) (.inl ⟨by rfl, ?_⟩) (by assumption) ?_
  rotate_left 1
  · intro w0 hSw
    obtain ⟨⟨z0, z1, z2⟩, z3, z4, z5, z6⟩ := hSw
    go_simp <;> with_reducible rfl
  try simp only [Act.put, List.getElem_toArray, List.getElem_cons_zero, List.getElem_cons_succ, List.setIfInBounds_toArray, List.set_cons_zero, List.set_cons_succ]
  refine wpAnyH_take (i := 6) (v := ?_) rfl (by kernel_rfl) (by kernel_rfl) (by kernel_rfl) (fun _ _ _ h => h) (.inl ⟨by rfl, ?_⟩) (by assumption) ?_
  rotate_left 1
  · intro w0 hSw
    go_simp <;> with_reducible rfl
  try simp only [Act.put, List.getElem_toArray, List.getElem_cons_zero, List.getElem_cons_succ, List.setIfInBounds_toArray, List.set_cons_zero, List.set_cons_succ]
  refine wpAnyH_take (i := 7) (v := ?_) rfl (by kernel_rfl) (by kernel_rfl) (by kernel_rfl) (fun _ _ _ h => h) (.inl ⟨by rfl, ?_⟩) (by assumption) ?_
  rotate_left 1
  · intro w0 hSw
    obtain ⟨⟨z0, z1, z2⟩, z3, z4, z5, z6⟩ := hSw
    go_simp <;> with_reducible rfl
  try simp only [Act.put, List.getElem_toArray, List.getElem_cons_zero, List.getElem_cons_succ, List.setIfInBounds_toArray, List.set_cons_zero, List.set_cons_succ]
  refine wpAnyH_ready (rs := [2, 11]) (by kernel_rfl) (by simp) ?_
  refine AllReadyH.cons rfl (fun K hK => ?_) (AllReadyH.cons rfl (fun K hK => ?_) AllReadyH.nil)
  · go_simp
    go_at_call 74
    refine (rtext_any d _).mono ?_
    rintro z w5 ⟨rfl, hb5⟩
    have b5 : Below w4.heap.size w4 w5 := b4.trans (hb5.mono b4.size)
    clear hb5
    refine hK.out _ _ (HS.out _ b5) (fun hHeld => ?_)
    clear hK K
    try simp only [Act.put, List.getElem_toArray, List.getElem_cons_zero, List.getElem_cons_succ, List.setIfInBounds_toArray, List.set_cons_zero, List.set_cons_succ]
    refine wpAnyH_ready (rs := [5, 11]) (by kernel_rfl) (by simp) ?_
    refine AllReadyH.cons rfl (fun K hK => ?_) (AllReadyH.cons rfl (fun K hK => ?_) AllReadyH.nil)
    · go_simp
      go_at_call 74
      refine (rtext_any e _).mono ?_
      rintro z w6 ⟨rfl, hb6⟩
      have b6 : Below w4.heap.size w4 w6 := b5.trans (hb6.mono b5.size)
      clear hb6
      refine hK.out _ _ (HS.out _ b6) (fun hHeld => ?_)
      clear hK K
      try simp only [Act.put, List.getElem_toArray, List.getElem_cons_zero, List.getElem_cons_succ, List.setIfInBounds_toArray, List.set_cons_zero, List.set_cons_succ]
      refine wpAnyH_ready (rs := [8, 11]) (by kernel_rfl) (by simp) ?_
      refine AllReadyH.cons rfl (fun K hK => ?_) (AllReadyH.cons rfl (fun K hK => ?_) AllReadyH.nil)
      · go_simp
        go_at_call 73
        refine (HK.out _).mono ?_
        rintro z w7 ⟨rfl, hb7⟩
        have b7 : Below w4.heap.size w4 w7 := b6.trans (hb7.mono b6.size)
        clear hb7
        refine hK.out _ _ (HS.out _ b7) (fun hHeld => ?_)
        clear hK K
        try simp only [Act.put, List.getElem_toArray, List.getElem_cons_zero, List.getElem_cons_succ, List.setIfInBounds_toArray, List.set_cons_zero, List.set_cons_succ]
        refine wpAnyH_ready (rs := [9, 11]) (by kernel_rfl) (by simp) ?_
        refine AllReadyH.cons rfl (fun K hK => ?_) (AllReadyH.cons rfl (fun K hK => ?_) AllReadyH.nil)
        · go_simp
          have hal : ∃ W, w7.alloc (.cells #[.bool false, .string d, .slice none 0 0, .bool false, .string e, .slice none 0 0, .bool false, .string ⟨(num k).toArray⟩, .slice none 0 0] 80) = W := ⟨_, rfl⟩
          obtain ⟨w8, hal⟩ := hal
          have hb8 : Below w7.heap.size w7 w8 := by rw [← hal]; exact (Below.refl _ _).alloc (Nat.le_refl _) _
          have b8 : Below w4.heap.size w4 w8 := b7.trans (hb8.mono b7.size)
          have HR_8 := Lib.hid (show RIn w8 w4.heap.size (.slice (some ⟨w7.heap.size, 0, none⟩) 3 3) [itT d, itT e, itN k] from by
            rw [← hal]
            refine reads_new w7 (w4.heap.size) 3 [(itT d, .slice none 0 0), (itT e, .slice none 0 0), (itN k, .slice none 0 0)] rfl b7.size (fun q hq => ?_)
            simp only [List.mem_cons, List.not_mem_nil, or_false] at hq
            rcases hq with rfl | rfl | rfl
            · exact RIn.nil _ _
            · exact RIn.nil _ _
            · exact RIn.nil _ _)
          rw [hal]
          clear hal hb8
          refine hK.out _ _ (HS.out _ b8) (fun hHeld => ?_)
          clear hK K
          try simp only [Act.put, List.getElem_toArray, List.getElem_cons_zero, List.getElem_cons_succ, List.setIfInBounds_toArray, List.set_cons_zero, List.set_cons_succ]
          refine wpAnyH_ready (rs := [10, 11]) (by kernel_rfl) (by simp) ?_
          refine AllReadyH.cons rfl (fun K hK => ?_) (AllReadyH.cons rfl (fun K hK => ?_) AllReadyH.nil)
          · go_simp
            go_at_call 67
            refine (rlist_any _ _ _ _).mono ?_
            rintro z w9 ⟨rfl, hb9⟩
            have b9 : Below w4.heap.size w4 w9 := b8.trans (hb9.mono b8.size)
            have HR_9 := Lib.hid (HR_8.out.below hb9)
            clear HR_8
            clear hb9
            refine hK.out _ _ (HS.out _ b9) (fun hHeld => ?_)
            clear hK K
            try simp only [Act.put, List.getElem_toArray, List.getElem_cons_zero, List.getElem_cons_succ, List.setIfInBounds_toArray, List.set_cons_zero, List.set_cons_succ]
            refine wpAnyH_ready (rs := [11]) (by kernel_rfl) (by simp) ?_
            refine AllReadyH.cons rfl (fun K hK => ?_) AllReadyH.nil
            go_simp
            have hal : ∃ W, w9.alloc (.cells #[.bool false, .string ⟨#[]⟩, .slice none 0 0] 80) = W := ⟨_, rfl⟩
            obtain ⟨w10, hal⟩ := hal
            have hba : Below w9.heap.size w9 w10 := by rw [← hal]; exact (Below.refl _ _).alloc (Nat.le_refl _) _
            have b10 : Below w4.heap.size w4 w10 := b9.trans (hba.mono b9.size)
            have c10 : Below w10.heap.size w10 w10 := Below.refl _ _
            have hzi : w4.heap.size ≤ w9.heap.size := b9.size
            have hlt : w9.heap.size < w10.heap.size := by rw [← hal]; simp
            have HZZ := Lib.hid (fun W (hb : Below w10.heap.size w10 W) => zero_cells (w := w9) (W := W) (by rw [hal]; exact hb))
            rw [hal]
            clear hal
            refine hK.out _ _ (HS.out _ b10) (fun hHeld => ?_)
            clear hK K
            try simp only [Act.put, List.getElem_toArray, List.getElem_cons_zero, List.getElem_cons_succ, List.setIfInBounds_toArray, List.set_cons_zero, List.set_cons_succ]
            obtain ⟨p0, p1, p2, f0, f1, f2⟩ := HZZ.out _ c10
            refine wpAnyH_ready (rs := [12]) (by kernel_rfl) (by simp) ?_
            refine AllReadyH.cons rfl (fun K hK => ?_) AllReadyH.nil
            go_simp
            refine hK.out _ _ (⟨⟨three_other hHeld.1.1 (by omega) _ _ _, three_other hHeld.1.2.1 (by omega) _ _ _, three_other hHeld.1.2.2 (by omega) _ _ _⟩, three_other hHeld.2.1 (by omega) _ _ _, three_other hHeld.2.2.1 (by omega) _ _ _, three_other hHeld.2.2.2.1 (by omega) _ _ _, three_other hHeld.2.2.2.2 (by omega) _ _ _⟩) (fun hHeld => ?_)
            clear hK K
            try simp only [Act.put, List.getElem_toArray, List.getElem_cons_zero, List.getElem_cons_succ, List.setIfInBounds_toArray, List.set_cons_zero, List.set_cons_succ]
            refine wpAnyH_done (by kernel_rfl) ?_ 0
            have hbn : Below w9.heap.size w9 w10 := hba.trans (c10.mono hba.size)
            have hbw : Below w.heap.size w w10 := HB4.out.trans (b10.mono HB4.out.size)
            have hsz : w9.heap.size < w10.heap.size := Nat.lt_of_lt_of_le hlt c10.size
            refine hkk _ _ ?_
            refine rlight_r5 n m a b c d e k p l cp br w hN hv g5 (w9.heap.size) va (.slice (some ⟨w7.heap.size, 0, none⟩) 3 3) hva ⟨_, _, _, rfl⟩ _ _ _ _ _ _ _ _ _ _ _ _ _ _ _ _ _ _ _ _ _ _ _ _ _ _ _ _ _ _ _ _ _ _ _ _ _ _ _ _ (Lib.hid (((hbw.setCell (p := ⟨w9.heap.size, 0, none⟩) (show w.heap.size ≤ w9.heap.size by omega) _).setCell (p := ⟨w9.heap.size, 1, none⟩) (show w.heap.size ≤ w9.heap.size by omega) _).setCell (p := ⟨w9.heap.size, 2, none⟩) (show w.heap.size ≤ w9.heap.size by omega) _)) ⟨h5.1, by rw [World.size_setCell, World.size_setCell, World.size_setCell]; omega⟩ ⟨by omega, by rw [World.size_setCell, World.size_setCell, World.size_setCell]; omega⟩ hHeld.1 (three_same p0 p1 p2 _ _ _) hHeld.2.1 (Lib.hid (zero_three HZ.out b10 (by omega) (by omega) _ _ _)) ?_ ?_
            · exact (keep_before (HA.out.below b9) hbn _ _ _)
            · exact (keep_before HR_9.out hbn _ _ _).mono (by omega)
          · go_simp
            have hal : ∃ W, w8.alloc (.cells #[.bool false, .string ⟨#[]⟩, .slice none 0 0] 80) = W := ⟨_, rfl⟩
            obtain ⟨w9, hal⟩ := hal
            have hba : Below w8.heap.size w8 w9 := by rw [← hal]; exact (Below.refl _ _).alloc (Nat.le_refl _) _
            have b9 : Below w4.heap.size w4 w9 := b8.trans (hba.mono b8.size)
            have c9 : Below w9.heap.size w9 w9 := Below.refl _ _
            have hzi : w4.heap.size ≤ w8.heap.size := b8.size
            have hlt : w8.heap.size < w9.heap.size := by rw [← hal]; simp
            have HZZ := Lib.hid (fun W (hb : Below w9.heap.size w9 W) => zero_cells (w := w8) (W := W) (by rw [hal]; exact hb))
            rw [hal]
            clear hal
            refine hK.out _ _ (HS.out _ b9) (fun hHeld => ?_)
            clear hK K
            try simp only [Act.put, List.getElem_toArray, List.getElem_cons_zero, List.getElem_cons_succ, List.setIfInBounds_toArray, List.set_cons_zero, List.set_cons_succ]
            refine wpAnyH_ready (rs := [10]) (by kernel_rfl) (by simp) ?_
            refine AllReadyH.cons rfl (fun K hK => ?_) AllReadyH.nil
            go_simp
            go_at_call 67
            refine (rlist_any _ _ _ _).mono ?_
            rintro z w10 ⟨rfl, hb10⟩
            have b10 : Below w4.heap.size w4 w10 := b9.trans (hb10.mono b9.size)
            have c10 : Below w9.heap.size w9 w10 := c9.trans (hb10.mono c9.size)
            clear hb10
            refine hK.out _ _ (HS.out _ b10) (fun hHeld => ?_)
            clear hK K
            try simp only [Act.put, List.getElem_toArray, List.getElem_cons_zero, List.getElem_cons_succ, List.setIfInBounds_toArray, List.set_cons_zero, List.set_cons_succ]
            obtain ⟨p0, p1, p2, f0, f1, f2⟩ := HZZ.out _ c10
            refine wpAnyH_ready (rs := [12]) (by kernel_rfl) (by simp) ?_
            refine AllReadyH.cons rfl (fun K hK => ?_) AllReadyH.nil
            go_simp
            refine hK.out _ _ (⟨⟨three_other hHeld.1.1 (by omega) _ _ _, three_other hHeld.1.2.1 (by omega) _ _ _, three_other hHeld.1.2.2 (by omega) _ _ _⟩, three_other hHeld.2.1 (by omega) _ _ _, three_other hHeld.2.2.1 (by omega) _ _ _, three_other hHeld.2.2.2.1 (by omega) _ _ _, three_other hHeld.2.2.2.2 (by omega) _ _ _⟩) (fun hHeld => ?_)
            clear hK K
            try simp only [Act.put, List.getElem_toArray, List.getElem_cons_zero, List.getElem_cons_succ, List.setIfInBounds_toArray, List.set_cons_zero, List.set_cons_succ]
            refine wpAnyH_done (by kernel_rfl) ?_ 0
            have hbn : Below w8.heap.size w8 w10 := hba.trans (c10.mono hba.size)
            have hbw : Below w.heap.size w w10 := HB4.out.trans (b10.mono HB4.out.size)
            have hsz : w8.heap.size < w10.heap.size := Nat.lt_of_lt_of_le hlt c10.size
            refine hkk _ _ ?_
            refine rlight_r5 n m a b c d e k p l cp br w hN hv g5 (w8.heap.size) va (.slice (some ⟨w7.heap.size, 0, none⟩) 3 3) hva ⟨_, _, _, rfl⟩ _ _ _ _ _ _ _ _ _ _ _ _ _ _ _ _ _ _ _ _ _ _ _ _ _ _ _ _ _ _ _ _ _ _ _ _ _ _ _ _ (Lib.hid (((hbw.setCell (p := ⟨w8.heap.size, 0, none⟩) (show w.heap.size ≤ w8.heap.size by omega) _).setCell (p := ⟨w8.heap.size, 1, none⟩) (show w.heap.size ≤ w8.heap.size by omega) _).setCell (p := ⟨w8.heap.size, 2, none⟩) (show w.heap.size ≤ w8.heap.size by omega) _)) ⟨h5.1, by rw [World.size_setCell, World.size_setCell, World.size_setCell]; omega⟩ ⟨by omega, by rw [World.size_setCell, World.size_setCell, World.size_setCell]; omega⟩ hHeld.1 (three_same p0 p1 p2 _ _ _) hHeld.2.1 (Lib.hid (zero_three HZ.out b10 (by omega) (by omega) _ _ _)) ?_ ?_
            · exact (keep_before (HA.out.below b8) hbn _ _ _)
            · exact (keep_before HR_8.out hbn _ _ _).mono (by omega)
        · go_simp
          have hal : ∃ W, w7.alloc (.cells #[.bool false, .string ⟨#[]⟩, .slice none 0 0] 80) = W := ⟨_, rfl⟩
          obtain ⟨w8, hal⟩ := hal
          have hba : Below w7.heap.size w7 w8 := by rw [← hal]; exact (Below.refl _ _).alloc (Nat.le_refl _) _
          have b8 : Below w4.heap.size w4 w8 := b7.trans (hba.mono b7.size)
          have c8 : Below w8.heap.size w8 w8 := Below.refl _ _
          have hzi : w4.heap.size ≤ w7.heap.size := b7.size
          have hlt : w7.heap.size < w8.heap.size := by rw [← hal]; simp
          have HZZ := Lib.hid (fun W (hb : Below w8.heap.size w8 W) => zero_cells (w := w7) (W := W) (by rw [hal]; exact hb))
          rw [hal]
          clear hal
          refine hK.out _ _ (HS.out _ b8) (fun hHeld => ?_)
          clear hK K
          try simp only [Act.put, List.getElem_toArray, List.getElem_cons_zero, List.getElem_cons_succ, List.setIfInBounds_toArray, List.set_cons_zero, List.set_cons_succ]
          refine wpAnyH_ready (rs := [9]) (by kernel_rfl) (by simp) ?_
          refine AllReadyH.cons rfl (fun K hK => ?_) AllReadyH.nil
          go_simp
          have hal : ∃ W, w8.alloc (.cells #[.bool false, .string d, .slice none 0 0, .bool false, .string e, .slice none 0 0, .bool false, .string ⟨(num k).toArray⟩, .slice none 0 0] 80) = W := ⟨_, rfl⟩
          obtain ⟨w9, hal⟩ := hal
          have hb9 : Below w8.heap.size w8 w9 := by rw [← hal]; exact (Below.refl _ _).alloc (Nat.le_refl _) _
          have b9 : Below w4.heap.size w4 w9 := b8.trans (hb9.mono b8.size)
          have c9 : Below w8.heap.size w8 w9 := c8.trans (hb9.mono c8.size)
          have HR_9 := Lib.hid (show RIn w9 w8.heap.size (.slice (some ⟨w8.heap.size, 0, none⟩) 3 3) [itT d, itT e, itN k] from by
            rw [← hal]
            refine reads_new w8 (w8.heap.size) 3 [(itT d, .slice none 0 0), (itT e, .slice none 0 0), (itN k, .slice none 0 0)] rfl c8.size (fun q hq => ?_)
            simp only [List.mem_cons, List.not_mem_nil, or_false] at hq
            rcases hq with rfl | rfl | rfl
            · exact RIn.nil _ _
            · exact RIn.nil _ _
            · exact RIn.nil _ _)
          rw [hal]
          clear hal hb9
          refine hK.out _ _ (HS.out _ b9) (fun hHeld => ?_)
          clear hK K
          try simp only [Act.put, List.getElem_toArray, List.getElem_cons_zero, List.getElem_cons_succ, List.setIfInBounds_toArray, List.set_cons_zero, List.set_cons_succ]
          refine wpAnyH_ready (rs := [10]) (by kernel_rfl) (by simp) ?_
          refine AllReadyH.cons rfl (fun K hK => ?_) AllReadyH.nil
          go_simp
          go_at_call 67
          refine (rlist_any _ _ _ _).mono ?_
          rintro z w10 ⟨rfl, hb10⟩
          have b10 : Below w4.heap.size w4 w10 := b9.trans (hb10.mono b9.size)
          have c10 : Below w8.heap.size w8 w10 := c9.trans (hb10.mono c9.size)
          have HR_10 := Lib.hid (HR_9.out.below hb10)
          clear HR_9
          clear hb10
          refine hK.out _ _ (HS.out _ b10) (fun hHeld => ?_)
          clear hK K
          try simp only [Act.put, List.getElem_toArray, List.getElem_cons_zero, List.getElem_cons_succ, List.setIfInBounds_toArray, List.set_cons_zero, List.set_cons_succ]
          obtain ⟨p0, p1, p2, f0, f1, f2⟩ := HZZ.out _ c10
          refine wpAnyH_ready (rs := [12]) (by kernel_rfl) (by simp) ?_
          refine AllReadyH.cons rfl (fun K hK => ?_) AllReadyH.nil
          go_simp
          refine hK.out _ _ (⟨⟨three_other hHeld.1.1 (by omega) _ _ _, three_other hHeld.1.2.1 (by omega) _ _ _, three_other hHeld.1.2.2 (by omega) _ _ _⟩, three_other hHeld.2.1 (by omega) _ _ _, three_other hHeld.2.2.1 (by omega) _ _ _, three_other hHeld.2.2.2.1 (by omega) _ _ _, three_other hHeld.2.2.2.2 (by omega) _ _ _⟩) (fun hHeld => ?_)
          clear hK K
          try simp only [Act.put, List.getElem_toArray, List.getElem_cons_zero, List.getElem_cons_succ, List.setIfInBounds_toArray, List.set_cons_zero, List.set_cons_succ]
          refine wpAnyH_done (by kernel_rfl) ?_ 0
          have hbn : Below w7.heap.size w7 w10 := hba.trans (c10.mono hba.size)
          have hbw : Below w.heap.size w w10 := HB4.out.trans (b10.mono HB4.out.size)
          have hsz : w7.heap.size < w10.heap.size := Nat.lt_of_lt_of_le hlt c10.size
          refine hkk _ _ ?_
          refine rlight_r5 n m a b c d e k p l cp br w hN hv g5 (w7.heap.size) va (.slice (some ⟨w8.heap.size, 0, none⟩) 3 3) hva ⟨_, _, _, rfl⟩ _ _ _ _ _ _ _ _ _ _ _ _ _ _ _ _ _ _ _ _ _ _ _ _ _ _ _ _ _ _ _ _ _ _ _ _ _ _ _ _ (Lib.hid (((hbw.setCell (p := ⟨w7.heap.size, 0, none⟩) (show w.heap.size ≤ w7.heap.size by omega) _).setCell (p := ⟨w7.heap.size, 1, none⟩) (show w.heap.size ≤ w7.heap.size by omega) _).setCell (p := ⟨w7.heap.size, 2, none⟩) (show w.heap.size ≤ w7.heap.size by omega) _)) ⟨h5.1, by rw [World.size_setCell, World.size_setCell, World.size_setCell]; omega⟩ ⟨by omega, by rw [World.size_setCell, World.size_setCell, World.size_setCell]; omega⟩ hHeld.1 (three_same p0 p1 p2 _ _ _) hHeld.2.1 (Lib.hid (zero_three HZ.out b10 (by omega) (by omega) _ _ _)) ?_ ?_
          · exact (keep_before (HA.out.below b7) hbn _ _ _)
          · exact (keep_after HR_10.out hlt _ _ _).mono (by omega)
      · go_simp
        have hal : ∃ W, w6.alloc (.cells #[.bool false, .string ⟨#[]⟩, .slice none 0 0] 80) = W := ⟨_, rfl⟩
        obtain ⟨w7, hal⟩ := hal
        have hba : Below w6.heap.size w6 w7 := by rw [← hal]; exact (Below.refl _ _).alloc (Nat.le_refl _) _
        have b7 : Below w4.heap.size w4 w7 := b6.trans (hba.mono b6.size)
        have c7 : Below w7.heap.size w7 w7 := Below.refl _ _
        have hzi : w4.heap.size ≤ w6.heap.size := b6.size
        have hlt : w6.heap.size < w7.heap.size := by rw [← hal]; simp
        have HZZ := Lib.hid (fun W (hb : Below w7.heap.size w7 W) => zero_cells (w := w6) (W := W) (by rw [hal]; exact hb))
        rw [hal]
        clear hal
        refine hK.out _ _ (HS.out _ b7) (fun hHeld => ?_)
        clear hK K
        try simp only [Act.put, List.getElem_toArray, List.getElem_cons_zero, List.getElem_cons_succ, List.setIfInBounds_toArray, List.set_cons_zero, List.set_cons_succ]
        refine wpAnyH_ready (rs := [8]) (by kernel_rfl) (by simp) ?_
        refine AllReadyH.cons rfl (fun K hK => ?_) AllReadyH.nil
        go_simp
        go_at_call 73
        refine (HK.out _).mono ?_
        rintro z w8 ⟨rfl, hb8⟩
        have b8 : Below w4.heap.size w4 w8 := b7.trans (hb8.mono b7.size)
        have c8 : Below w7.heap.size w7 w8 := c7.trans (hb8.mono c7.size)
        clear hb8
        refine hK.out _ _ (HS.out _ b8) (fun hHeld => ?_)
        clear hK K
        try simp only [Act.put, List.getElem_toArray, List.getElem_cons_zero, List.getElem_cons_succ, List.setIfInBounds_toArray, List.set_cons_zero, List.set_cons_succ]
        refine wpAnyH_ready (rs := [9]) (by kernel_rfl) (by simp) ?_
        refine AllReadyH.cons rfl (fun K hK => ?_) AllReadyH.nil
        go_simp
        have hal : ∃ W, w8.alloc (.cells #[.bool false, .string d, .slice none 0 0, .bool false, .string e, .slice none 0 0, .bool false, .string ⟨(num k).toArray⟩, .slice none 0 0] 80) = W := ⟨_, rfl⟩
        obtain ⟨w9, hal⟩ := hal
        have hb9 : Below w8.heap.size w8 w9 := by rw [← hal]; exact (Below.refl _ _).alloc (Nat.le_refl _) _
        have b9 : Below w4.heap.size w4 w9 := b8.trans (hb9.mono b8.size)
        have c9 : Below w7.heap.size w7 w9 := c8.trans (hb9.mono c8.size)
        have HR_9 := Lib.hid (show RIn w9 w7.heap.size (.slice (some ⟨w8.heap.size, 0, none⟩) 3 3) [itT d, itT e, itN k] from by
          rw [← hal]
          refine reads_new w8 (w7.heap.size) 3 [(itT d, .slice none 0 0), (itT e, .slice none 0 0), (itN k, .slice none 0 0)] rfl c8.size (fun q hq => ?_)
          simp only [List.mem_cons, List.not_mem_nil, or_false] at hq
          rcases hq with rfl | rfl | rfl
          · exact RIn.nil _ _
          · exact RIn.nil _ _
          · exact RIn.nil _ _)
        rw [hal]
        clear hal hb9
        refine hK.out _ _ (HS.out _ b9) (fun hHeld => ?_)
        clear hK K
        try simp only [Act.put, List.getElem_toArray, List.getElem_cons_zero, List.getElem_cons_succ, List.setIfInBounds_toArray, List.set_cons_zero, List.set_cons_succ]
        refine wpAnyH_ready (rs := [10]) (by kernel_rfl) (by simp) ?_
        refine AllReadyH.cons rfl (fun K hK => ?_) AllReadyH.nil
        go_simp
        go_at_call 67
        refine (rlist_any _ _ _ _).mono ?_
        rintro z w10 ⟨rfl, hb10⟩
        have b10 : Below w4.heap.size w4 w10 := b9.trans (hb10.mono b9.size)
        have c10 : Below w7.heap.size w7 w10 := c9.trans (hb10.mono c9.size)
        have HR_10 := Lib.hid (HR_9.out.below hb10)
        clear HR_9
        clear hb10
        refine hK.out _ _ (HS.out _ b10) (fun hHeld => ?_)
        clear hK K
        try simp only [Act.put, List.getElem_toArray, List.getElem_cons_zero, List.getElem_cons_succ, List.setIfInBounds_toArray, List.set_cons_zero, List.set_cons_succ]
        obtain ⟨p0, p1, p2, f0, f1, f2⟩ := HZZ.out _ c10
        refine wpAnyH_ready (rs := [12]) (by kernel_rfl) (by simp) ?_
        refine AllReadyH.cons rfl (fun K hK => ?_) AllReadyH.nil
        go_simp
        refine hK.out _ _ (⟨⟨three_other hHeld.1.1 (by omega) _ _ _, three_other hHeld.1.2.1 (by omega) _ _ _, three_other hHeld.1.2.2 (by omega) _ _ _⟩, three_other hHeld.2.1 (by omega) _ _ _, three_other hHeld.2.2.1 (by omega) _ _ _, three_other hHeld.2.2.2.1 (by omega) _ _ _, three_other hHeld.2.2.2.2 (by omega) _ _ _⟩) (fun hHeld => ?_)
        clear hK K
        try simp only [Act.put, List.getElem_toArray, List.getElem_cons_zero, List.getElem_cons_succ, List.setIfInBounds_toArray, List.set_cons_zero, List.set_cons_succ]
        refine wpAnyH_done (by kernel_rfl) ?_ 0
        have hbn : Below w6.heap.size w6 w10 := hba.trans (c10.mono hba.size)
        have hbw : Below w.heap.size w w10 := HB4.out.trans (b10.mono HB4.out.size)
        have hsz : w6.heap.size < w10.heap.size := Nat.lt_of_lt_of_le hlt c10.size
        refine hkk _ _ ?_
        refine rlight_r5 n m a b c d e k p l cp br w hN hv g5 (w6.heap.size) va (.slice (some ⟨w8.heap.size, 0, none⟩) 3 3) hva ⟨_, _, _, rfl⟩ _ _ _ _ _ _ _ _ _ _ _ _ _ _ _ _ _ _ _ _ _ _ _ _ _ _ _ _ _ _ _ _ _ _ _ _ _ _ _ _ (Lib.hid (((hbw.setCell (p := ⟨w6.heap.size, 0, none⟩) (show w.heap.size ≤ w6.heap.size by omega) _).setCell (p := ⟨w6.heap.size, 1, none⟩) (show w.heap.size ≤ w6.heap.size by omega) _).setCell (p := ⟨w6.heap.size, 2, none⟩) (show w.heap.size ≤ w6.heap.size by omega) _)) ⟨h5.1, by rw [World.size_setCell, World.size_setCell, World.size_setCell]; omega⟩ ⟨by omega, by rw [World.size_setCell, World.size_setCell, World.size_setCell]; omega⟩ hHeld.1 (three_same p0 p1 p2 _ _ _) hHeld.2.1 (Lib.hid (zero_three HZ.out b10 (by omega) (by omega) _ _ _)) ?_ ?_
        · exact (keep_before (HA.out.below b6) hbn _ _ _)
        · exact (keep_after HR_10.out hlt _ _ _).mono (by omega)
    · go_simp
      have hal : ∃ W, w5.alloc (.cells #[.bool false, .string ⟨#[]⟩, .slice none 0 0] 80) = W := ⟨_, rfl⟩
      obtain ⟨w6, hal⟩ := hal
      have hba : Below w5.heap.size w5 w6 := by rw [← hal]; exact (Below.refl _ _).alloc (Nat.le_refl _) _
      have b6 : Below w4.heap.size w4 w6 := b5.trans (hba.mono b5.size)
      have c6 : Below w6.heap.size w6 w6 := Below.refl _ _
      have hzi : w4.heap.size ≤ w5.heap.size := b5.size
      have hlt : w5.heap.size < w6.heap.size := by rw [← hal]; simp
      have HZZ := Lib.hid (fun W (hb : Below w6.heap.size w6 W) => zero_cells (w := w5) (W := W) (by rw [hal]; exact hb))
      rw [hal]
      clear hal
      refine hK.out _ _ (HS.out _ b6) (fun hHeld => ?_)
      clear hK K
      try simp only [Act.put, List.getElem_toArray, List.getElem_cons_zero, List.getElem_cons_succ, List.setIfInBounds_toArray, List.set_cons_zero, List.set_cons_succ]
      refine wpAnyH_ready (rs := [5]) (by kernel_rfl) (by simp) ?_
      refine AllReadyH.cons rfl (fun K hK => ?_) AllReadyH.nil
      go_simp
      go_at_call 74
      refine (rtext_any e _).mono ?_
      rintro z w7 ⟨rfl, hb7⟩
      have b7 : Below w4.heap.size w4 w7 := b6.trans (hb7.mono b6.size)
      have c7 : Below w6.heap.size w6 w7 := c6.trans (hb7.mono c6.size)
      clear hb7
      refine hK.out _ _ (HS.out _ b7) (fun hHeld => ?_)
      clear hK K
      try simp only [Act.put, List.getElem_toArray, List.getElem_cons_zero, List.getElem_cons_succ, List.setIfInBounds_toArray, List.set_cons_zero, List.set_cons_succ]
      refine wpAnyH_ready (rs := [8]) (by kernel_rfl) (by simp) ?_
      refine AllReadyH.cons rfl (fun K hK => ?_) AllReadyH.nil
      go_simp
      go_at_call 73
      refine (HK.out _).mono ?_
      rintro z w8 ⟨rfl, hb8⟩
      have b8 : Below w4.heap.size w4 w8 := b7.trans (hb8.mono b7.size)
      have c8 : Below w6.heap.size w6 w8 := c7.trans (hb8.mono c7.size)
      clear hb8
      refine hK.out _ _ (HS.out _ b8) (fun hHeld => ?_)
      clear hK K
      try simp only [Act.put, List.getElem_toArray, List.getElem_cons_zero, List.getElem_cons_succ, List.setIfInBounds_toArray, List.set_cons_zero, List.set_cons_succ]
      refine wpAnyH_ready (rs := [9]) (by kernel_rfl) (by simp) ?_
      refine AllReadyH.cons rfl (fun K hK => ?_) AllReadyH.nil
      go_simp
      have hal : ∃ W, w8.alloc (.cells #[.bool false, .string d, .slice none 0 0, .bool false, .string e, .slice none 0 0, .bool false, .string ⟨(num k).toArray⟩, .slice none 0 0] 80) = W := ⟨_, rfl⟩
      obtain ⟨w9, hal⟩ := hal
      have hb9 : Below w8.heap.size w8 w9 := by rw [← hal]; exact (Below.refl _ _).alloc (Nat.le_refl _) _
      have b9 : Below w4.heap.size w4 w9 := b8.trans (hb9.mono b8.size)
      have c9 : Below w6.heap.size w6 w9 := c8.trans (hb9.mono c8.size)
      have HR_9 := Lib.hid (show RIn w9 w6.heap.size (.slice (some ⟨w8.heap.size, 0, none⟩) 3 3) [itT d, itT e, itN k] from by
        rw [← hal]
        refine reads_new w8 (w6.heap.size) 3 [(itT d, .slice none 0 0), (itT e, .slice none 0 0), (itN k, .slice none 0 0)] rfl c8.size (fun q hq => ?_)
        simp only [List.mem_cons, List.not_mem_nil, or_false] at hq
        rcases hq with rfl | rfl | rfl
        · exact RIn.nil _ _
        · exact RIn.nil _ _
        · exact RIn.nil _ _)
      rw [hal]
      clear hal hb9
      refine hK.out _ _ (HS.out _ b9) (fun hHeld => ?_)
      clear hK K
      try simp only [Act.put, List.getElem_toArray, List.getElem_cons_zero, List.getElem_cons_succ, List.setIfInBounds_toArray, List.set_cons_zero, List.set_cons_succ]
      refine wpAnyH_ready (rs := [10]) (by kernel_rfl) (by simp) ?_
      refine AllReadyH.cons rfl (fun K hK => ?_) AllReadyH.nil
      go_simp
      go_at_call 67
      refine (rlist_any _ _ _ _).mono ?_
      rintro z w10 ⟨rfl, hb10⟩
      have b10 : Below w4.heap.size w4 w10 := b9.trans (hb10.mono b9.size)
      have c10 : Below w6.heap.size w6 w10 := c9.trans (hb10.mono c9.size)
      have HR_10 := Lib.hid (HR_9.out.below hb10)
      clear HR_9
      clear hb10
      refine hK.out _ _ (HS.out _ b10) (fun hHeld => ?_)
      clear hK K
      try simp only [Act.put, List.getElem_toArray, List.getElem_cons_zero, List.getElem_cons_succ, List.setIfInBounds_toArray, List.set_cons_zero, List.set_cons_succ]
      obtain ⟨p0, p1, p2, f0, f1, f2⟩ := HZZ.out _ c10
      refine wpAnyH_ready (rs := [12]) (by kernel_rfl) (by simp) ?_
      refine AllReadyH.cons rfl (fun K hK => ?_) AllReadyH.nil
      go_simp
      refine hK.out _ _ (⟨⟨three_other hHeld.1.1 (by omega) _ _ _, three_other hHeld.1.2.1 (by omega) _ _ _, three_other hHeld.1.2.2 (by omega) _ _ _⟩, three_other hHeld.2.1 (by omega) _ _ _, three_other hHeld.2.2.1 (by omega) _ _ _, three_other hHeld.2.2.2.1 (by omega) _ _ _, three_other hHeld.2.2.2.2 (by omega) _ _ _⟩) (fun hHeld => ?_)
      clear hK K
      try simp only [Act.put, List.getElem_toArray, List.getElem_cons_zero, List.getElem_cons_succ, List.setIfInBounds_toArray, List.set_cons_zero, List.set_cons_succ]
      refine wpAnyH_done (by kernel_rfl) ?_ 0
      have hbn : Below w5.heap.size w5 w10 := hba.trans (c10.mono hba.size)
      have hbw : Below w.heap.size w w10 := HB4.out.trans (b10.mono HB4.out.size)
      have hsz : w5.heap.size < w10.heap.size := Nat.lt_of_lt_of_le hlt c10.size
      refine hkk _ _ ?_
      refine rlight_r5 n m a b c d e k p l cp br w hN hv g5 (w5.heap.size) va (.slice (some ⟨w8.heap.size, 0, none⟩) 3 3) hva ⟨_, _, _, rfl⟩ _ _ _ _ _ _ _ _ _ _ _ _ _ _ _ _ _ _ _ _ _ _ _ _ _ _ _ _ _ _ _ _ _ _ _ _ _ _ _ _ (Lib.hid (((hbw.setCell (p := ⟨w5.heap.size, 0, none⟩) (show w.heap.size ≤ w5.heap.size by omega) _).setCell (p := ⟨w5.heap.size, 1, none⟩) (show w.heap.size ≤ w5.heap.size by omega) _).setCell (p := ⟨w5.heap.size, 2, none⟩) (show w.heap.size ≤ w5.heap.size by omega) _)) ⟨h5.1, by rw [World.size_setCell, World.size_setCell, World.size_setCell]; omega⟩ ⟨by omega, by rw [World.size_setCell, World.size_setCell, World.size_setCell]; omega⟩ hHeld.1 (three_same p0 p1 p2 _ _ _) hHeld.2.1 (Lib.hid (zero_three HZ.out b10 (by omega) (by omega) _ _ _)) ?_ ?_
      · exact (keep_before (HA.out.below b5) hbn _ _ _)
      · exact (keep_after HR_10.out hlt _ _ _).mono (by omega)
  · go_simp
    have hal : ∃ W, (w4.alloc (.cells #[.bool false, .string ⟨#[]⟩, .slice none 0 0] 80)).drew = W := ⟨_, rfl⟩
    obtain ⟨w5, hal⟩ := hal
    have hba : Below w4.heap.size w4 w5 := by rw [← hal]; exact ((Below.refl _ _).alloc (Nat.le_refl _) _).drew
    have b5 : Below w4.heap.size w4 w5 := hba
    have c5 : Below w5.heap.size w5 w5 := Below.refl _ _
    have hzi : w4.heap.size ≤ w4.heap.size := Nat.le_refl _
    have hlt : w4.heap.size < w5.heap.size := by rw [← hal]; show w4.heap.size < (w4.alloc _).heap.size; simp
    have HZZ := Lib.hid (fun W (hb : Below w5.heap.size w5 W) => zero_cells (w := w4) (W := W) (by rw [← hal] at hb; exact (Below.refl _ _).drew.trans hb))
    rw [hal]
    clear hal
    refine hK.out _ _ (HS.out _ b5) (fun hHeld => ?_)
    clear hK K
    try simp only [Act.put, List.getElem_toArray, List.getElem_cons_zero, List.getElem_cons_succ, List.setIfInBounds_toArray, List.set_cons_zero, List.set_cons_succ]
    refine wpAnyH_ready (rs := [2]) (by kernel_rfl) (by simp) ?_
    refine AllReadyH.cons rfl (fun K hK => ?_) AllReadyH.nil
    go_simp
    go_at_call 74
    refine (rtext_any d _).mono ?_
    rintro z w6 ⟨rfl, hb6⟩
    have b6 : Below w4.heap.size w4 w6 := b5.trans (hb6.mono b5.size)
    have c6 : Below w5.heap.size w5 w6 := c5.trans (hb6.mono c5.size)
    clear hb6
    refine hK.out _ _ (HS.out _ b6) (fun hHeld => ?_)
    clear hK K
    try simp only [Act.put, List.getElem_toArray, List.getElem_cons_zero, List.getElem_cons_succ, List.setIfInBounds_toArray, List.set_cons_zero, List.set_cons_succ]
    refine wpAnyH_ready (rs := [5]) (by kernel_rfl) (by simp) ?_
    refine AllReadyH.cons rfl (fun K hK => ?_) AllReadyH.nil
    go_simp
    go_at_call 74
    refine (rtext_any e _).mono ?_
    rintro z w7 ⟨rfl, hb7⟩
    have b7 : Below w4.heap.size w4 w7 := b6.trans (hb7.mono b6.size)
    have c7 : Below w5.heap.size w5 w7 := c6.trans (hb7.mono c6.size)
    clear hb7
    refine hK.out _ _ (HS.out _ b7) (fun hHeld => ?_)
    clear hK K
    try simp only [Act.put, List.getElem_toArray, List.getElem_cons_zero, List.getElem_cons_succ, List.setIfInBounds_toArray, List.set_cons_zero, List.set_cons_succ]
    refine wpAnyH_ready (rs := [8]) (by kernel_rfl) (by simp) ?_
    refine AllReadyH.cons rfl (fun K hK => ?_) AllReadyH.nil
    go_simp
    go_at_call 73
    refine (HK.out _).mono ?_
    rintro z w8 ⟨rfl, hb8⟩
    have b8 : Below w4.heap.size w4 w8 := b7.trans (hb8.mono b7.size)
    have c8 : Below w5.heap.size w5 w8 := c7.trans (hb8.mono c7.size)
    clear hb8
    refine hK.out _ _ (HS.out _ b8) (fun hHeld => ?_)
    clear hK K
    try simp only [Act.put, List.getElem_toArray, List.getElem_cons_zero, List.getElem_cons_succ, List.setIfInBounds_toArray, List.set_cons_zero, List.set_cons_succ]
    refine wpAnyH_ready (rs := [9]) (by kernel_rfl) (by simp) ?_
    refine AllReadyH.cons rfl (fun K hK => ?_) AllReadyH.nil
    go_simp
    have hal : ∃ W, w8.alloc (.cells #[.bool false, .string d, .slice none 0 0, .bool false, .string e, .slice none 0 0, .bool false, .string ⟨(num k).toArray⟩, .slice none 0 0] 80) = W := ⟨_, rfl⟩
    obtain ⟨w9, hal⟩ := hal
    have hb9 : Below w8.heap.size w8 w9 := by rw [← hal]; exact (Below.refl _ _).alloc (Nat.le_refl _) _
    have b9 : Below w4.heap.size w4 w9 := b8.trans (hb9.mono b8.size)
    have c9 : Below w5.heap.size w5 w9 := c8.trans (hb9.mono c8.size)
    have HR_9 := Lib.hid (show RIn w9 w5.heap.size (.slice (some ⟨w8.heap.size, 0, none⟩) 3 3) [itT d, itT e, itN k] from by
      rw [← hal]
      refine reads_new w8 (w5.heap.size) 3 [(itT d, .slice none 0 0), (itT e, .slice none 0 0), (itN k, .slice none 0 0)] rfl c8.size (fun q hq => ?_)
      simp only [List.mem_cons, List.not_mem_nil, or_false] at hq
      rcases hq with rfl | rfl | rfl
      · exact RIn.nil _ _
      · exact RIn.nil _ _
      · exact RIn.nil _ _)
    rw [hal]
    clear hal hb9
    refine hK.out _ _ (HS.out _ b9) (fun hHeld => ?_)
    clear hK K
    try simp only [Act.put, List.getElem_toArray, List.getElem_cons_zero, List.getElem_cons_succ, List.setIfInBounds_toArray, List.set_cons_zero, List.set_cons_succ]
    refine wpAnyH_ready (rs := [10]) (by kernel_rfl) (by simp) ?_
    refine AllReadyH.cons rfl (fun K hK => ?_) AllReadyH.nil
    go_simp
    go_at_call 67
    refine (rlist_any _ _ _ _).mono ?_
    rintro z w10 ⟨rfl, hb10⟩
    have b10 : Below w4.heap.size w4 w10 := b9.trans (hb10.mono b9.size)
    have c10 : Below w5.heap.size w5 w10 := c9.trans (hb10.mono c9.size)
    have HR_10 := Lib.hid (HR_9.out.below hb10)
    clear HR_9
    clear hb10
    refine hK.out _ _ (HS.out _ b10) (fun hHeld => ?_)
    clear hK K
    try simp only [Act.put, List.getElem_toArray, List.getElem_cons_zero, List.getElem_cons_succ, List.setIfInBounds_toArray, List.set_cons_zero, List.set_cons_succ]
    obtain ⟨p0, p1, p2, f0, f1, f2⟩ := HZZ.out _ c10
    refine wpAnyH_ready (rs := [12]) (by kernel_rfl) (by simp) ?_
    refine AllReadyH.cons rfl (fun K hK => ?_) AllReadyH.nil
    go_simp
    refine hK.out _ _ (⟨⟨three_other hHeld.1.1 (by omega) _ _ _, three_other hHeld.1.2.1 (by omega) _ _ _, three_other hHeld.1.2.2 (by omega) _ _ _⟩, three_other hHeld.2.1 (by omega) _ _ _, three_other hHeld.2.2.1 (by omega) _ _ _, three_other hHeld.2.2.2.1 (by omega) _ _ _, three_other hHeld.2.2.2.2 (by omega) _ _ _⟩) (fun hHeld => ?_)
    clear hK K
    try simp only [Act.put, List.getElem_toArray, List.getElem_cons_zero, List.getElem_cons_succ, List.setIfInBounds_toArray, List.set_cons_zero, List.set_cons_succ]
    refine wpAnyH_done (by kernel_rfl) ?_ 0
    have hbn : Below w4.heap.size w4 w10 := hba.trans (c10.mono hba.size)
    have hbw : Below w.heap.size w w10 := HB4.out.trans (b10.mono HB4.out.size)
    have hsz : w4.heap.size < w10.heap.size := Nat.lt_of_lt_of_le hlt c10.size
    refine hkk _ _ ?_
    refine rlight_r5 n m a b c d e k p l cp br w hN hv g5 (w4.heap.size) va (.slice (some ⟨w8.heap.size, 0, none⟩) 3 3) hva ⟨_, _, _, rfl⟩ _ _ _ _ _ _ _ _ _ _ _ _ _ _ _ _ _ _ _ _ _ _ _ _ _ _ _ _ _ _ _ _ _ _ _ _ _ _ _ _ (Lib.hid (((hbw.setCell (p := ⟨w4.heap.size, 0, none⟩) (show w.heap.size ≤ w4.heap.size by omega) _).setCell (p := ⟨w4.heap.size, 1, none⟩) (show w.heap.size ≤ w4.heap.size by omega) _).setCell (p := ⟨w4.heap.size, 2, none⟩) (show w.heap.size ≤ w4.heap.size by omega) _)) ⟨h5.1, by rw [World.size_setCell, World.size_setCell, World.size_setCell]; omega⟩ ⟨by omega, by rw [World.size_setCell, World.size_setCell, World.size_setCell]; omega⟩ hHeld.1 (three_same p0 p1 p2 _ _ _) hHeld.2.1 (Lib.hid (zero_three HZ.out b10 (by omega) (by omega) _ _ _)) ?_ ?_
    · exact (keep_before HA.out hbn _ _ _)
    · exact (keep_after HR_10.out hlt _ _ _).mono (by omega)
end Go.Proofs.YtfbopnebfdkhdaaDoor
