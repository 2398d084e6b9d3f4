/- The walks of the laws AcctSlots and AcctSizes: each returns true, and nothing that was there is changed. -/
import Derived.Test.YtmjblnhnadffmaaDoorAccE
namespace Go.Proofs.YtmjblnhnadffmaaDoor
open Go.RowKit Go.Shelf Go.Lib

theorem slotFrom_lt (s : List UInt8) : (slotFrom s).1 < 256 ^ 32 := by
  unfold slotFrom
  split
  · decide
  · exact wordOf_lt _
theorem slotFrom_lit {s : ByteArray} {v : Nat} {n : Int} (h : slotFrom s.data.toList = (v, n)) (hs : s.size ≤ 1099511627776) (W : World) :
    Calls Tryd.prog 9 #[.string s] W fun e w' => e = .returned (.tuple #[wordV v, .int .i64 n]) ∧ Below W.heap.size W w' := by
  have := slotFrom_any s.data.toList W hs
  rw [h] at this
  exact this
theorem slotFromRef_lit {s : ByteArray} {v : Nat} {n : Int} (h : slotFrom s.data.toList = (v, n)) (hs : s.size ≤ 1099511627776) (W : World) :
    Calls Tryd.prog 10 #[.string s] W fun e w' => e = .returned (.tuple #[wordV v, .int .i64 n]) ∧ Below W.heap.size W w' := by
  have := slotFromRef_any s.data.toList W hs
  rw [h] at this
  exact this

set_option maxRecDepth 100000 in
set_option maxHeartbeats 3200000 in
theorem law_slots (v : Nat) (s : ByteArray) (w : World) (hs : s.size ≤ 1048576) :
    Calls Tryd.prog 3 #[wordV v, .string s] w fun e w' => e = .returned (.bool true) ∧ Below w.heap.size w w' := by
  obtain ⟨u, n, hr⟩ : ∃ u n, slotFrom s.data.toList = (u, n) := ⟨_, _, rfl⟩
  have hu : u < 256 ^ 32 := by have := slotFrom_lt s.data.toList; rw [hr] at this; exact this
  have H1 := Lib.hid (fun W => slotFrom_lit hr (by omega) W)
  have H2 := Lib.hid (fun W => slotFromRef_lit hr (by omega) W)
  have H3 := Lib.hid (fun W => slot_any v W)
  have H4 := Lib.hid (fun W => slotRef_any v W)
  obtain ⟨sl, hsl⟩ : ∃ sl, slotL v = sl := ⟨_, rfl⟩
  rw [hsl] at H3 H4
  have hq0 := fun W => eq_wordV hu hu W
  obtain ⟨x0, x1, x2, x3, hv, -⟩ := wordV_form v
  rw [hv] at H3 H4 ⊢
  obtain ⟨a0, a1, a2, a3, ha, -⟩ := wordV_form u
  rw [ha] at H1 H2 hq0
  have hq : ∀ W, (Op.equalIn 10000 24 (.agg #[.int .u64 a0, .int .u64 a1, .int .u64 a2, .int .u64 a3]) (.agg #[.int .u64 a0, .int .u64 a1, .int .u64 a2, .int .u64 a3])).run Tryd.prog W = .ok true W := fun W => by
    rw [hq0]; simp
  clear hq0 hv ha hsl hr hu
  go_enter Tryd.func3, Tryd.ntmps3
  go_wp2_with fail
  refine (shown16_any _).mono ?_
  rintro e w1 ⟨rfl, hb1⟩
  have hB1 := (laid1 w _).trans (hb1.mono (by simp))
  have hc := fun (j : Nat) (u : Value) (hj : [Value.int .u64 x0, .int .u64 x1, .int .u64 x2, .int .u64 x3][j]? = some u) => (hb1.cell (p := ⟨w.heap.size, j, none⟩) (by simp)).trans (cells_at w [.int .u64 x0, .int .u64 x1, .int .u64 x2, .int .u64 x3] 24 j u hj)
  have hz1 : w.heap.size < w1.heap.size := by have := hb1.size; simp at this; omega
  clear hb1
  go_wp2_with fail
  refine (H1.out _).mono ?_
  rintro e w2 ⟨rfl, hb2⟩
  have hB2 := hB1.trans (hb2.mono hB1.size)
  have hz2 := hb2.size
  go_wp2_with fail
  refine (H2.out _).mono ?_
  rintro e w3 ⟨rfl, hb3⟩
  have hz3 := hb3.size
  simp at hz3
  have hB3 := (hB2.alloc hB2.size _).trans (hb3.mono (by simp; omega))
  have HB4 := hB3.alloc hB3.size (.cells #[.int .u64 a0, .int .u64 a1, .int .u64 a2, .int .u64 a3] 24)
  have hx : ∀ (j : Nat) (u : Value), [Value.int .u64 x0, .int .u64 x1, .int .u64 x2, .int .u64 x3][j]? = some u → (w3.alloc (.cells #[.int .u64 a0, .int .u64 a1, .int .u64 a2, .int .u64 a3] 24)).cell? ⟨w.heap.size, j, none⟩ = some u := fun j u hj => by
    rw [World.cell?_alloc_past _ _ _ (by omega)]
    refine (hb3.cell (p := ⟨w.heap.size, j, none⟩) (by simp; omega)).trans ?_
    rw [World.cell?_alloc_past _ _ _ (by omega)]
    exact (hb2.cell (p := ⟨w.heap.size, j, none⟩) hz1).trans (hc j u hj)
  have h6 : ∀ (j : Nat) (u : Value), [Value.int .u64 a0, .int .u64 a1, .int .u64 a2, .int .u64 a3][j]? = some u → (w3.alloc (.cells #[.int .u64 a0, .int .u64 a1, .int .u64 a2, .int .u64 a3] 24)).cell? ⟨w2.heap.size, j, none⟩ = some u := fun j u hj => by
    rw [World.cell?_alloc_past _ _ _ (by omega)]
    exact (hb3.cell (p := ⟨w2.heap.size, j, none⟩) (by simp)).trans (cells_at w2 [.int .u64 a0, .int .u64 a1, .int .u64 a2, .int .u64 a3] 24 j u hj)
  have h8 : ∀ (j : Nat) (u : Value), [Value.int .u64 a0, .int .u64 a1, .int .u64 a2, .int .u64 a3][j]? = some u → (w3.alloc (.cells #[.int .u64 a0, .int .u64 a1, .int .u64 a2, .int .u64 a3] 24)).cell? ⟨w3.heap.size, j, none⟩ = some u := cells_at w3 [.int .u64 a0, .int .u64 a1, .int .u64 a2, .int .u64 a3] 24
  have hk6 : w2.heap.size < (w3.alloc (.cells #[.int .u64 a0, .int .u64 a1, .int .u64 a2, .int .u64 a3] 24)).heap.size := by simp; omega
  have hk8 : w3.heap.size < (w3.alloc (.cells #[.int .u64 a0, .int .u64 a1, .int .u64 a2, .int .u64 a3] 24)).heap.size := by simp
  go_wp2_with fail
  obtain ⟨g6, hg6⟩ : ∃ g, w2.heap.size = g := ⟨_, rfl⟩
  obtain ⟨g8, hg8⟩ : ∃ g, w3.heap.size = g := ⟨_, rfl⟩
  rw [hg6, hg8]
  rw [hg6] at h6 hk6
  rw [hg8] at h8 hk8
  obtain ⟨w4, hw4⟩ : ∃ w4, w3.alloc (.cells #[.int .u64 a0, .int .u64 a1, .int .u64 a2, .int .u64 a3] 24) = w4 := ⟨_, rfl⟩
  rw [hw4] at hx h6 h8 hk6 hk8 HB4 ⊢
  have hk0 : w.heap.size < w4.heap.size := World.block_lt_of_cell? w4 _ (hx 0 _ rfl)
  have HB4 := Lib.hid HB4
  have HS := Lib.hid (fun W' (hb : Below w4.heap.size w4 W') => (show W'.cell? ⟨w.heap.size, 0, none⟩ = some (.int .u64 x0) ∧ W'.cell? ⟨w.heap.size, 1, none⟩ = some (.int .u64 x1) ∧ W'.cell? ⟨w.heap.size, 2, none⟩ = some (.int .u64 x2) ∧ W'.cell? ⟨w.heap.size, 3, none⟩ = some (.int .u64 x3) ∧ W'.cell? ⟨g6, 0, none⟩ = some (.int .u64 a0) ∧ W'.cell? ⟨g6, 1, none⟩ = some (.int .u64 a1) ∧ W'.cell? ⟨g6, 2, none⟩ = some (.int .u64 a2) ∧ W'.cell? ⟨g6, 3, none⟩ = some (.int .u64 a3) ∧ W'.cell? ⟨g8, 0, none⟩ = some (.int .u64 a0) ∧ W'.cell? ⟨g8, 1, none⟩ = some (.int .u64 a1) ∧ W'.cell? ⟨g8, 2, none⟩ = some (.int .u64 a2) ∧ W'.cell? ⟨g8, 3, none⟩ = some (.int .u64 a3) from
    ⟨(hb.cell (p := ⟨w.heap.size, 0, none⟩) hk0).trans (hx 0 _ rfl), (hb.cell (p := ⟨w.heap.size, 1, none⟩) hk0).trans (hx 1 _ rfl), (hb.cell (p := ⟨w.heap.size, 2, none⟩) hk0).trans (hx 2 _ rfl), (hb.cell (p := ⟨w.heap.size, 3, none⟩) hk0).trans (hx 3 _ rfl), (hb.cell (p := ⟨g6, 0, none⟩) hk6).trans (h6 0 _ rfl), (hb.cell (p := ⟨g6, 1, none⟩) hk6).trans (h6 1 _ rfl), (hb.cell (p := ⟨g6, 2, none⟩) hk6).trans (h6 2 _ rfl), (hb.cell (p := ⟨g6, 3, none⟩) hk6).trans (h6 3 _ rfl), (hb.cell (p := ⟨g8, 0, none⟩) hk8).trans (h8 0 _ rfl), (hb.cell (p := ⟨g8, 1, none⟩) hk8).trans (h8 1 _ rfl), (hb.cell (p := ⟨g8, 2, none⟩) hk8).trans (h8 2 _ rfl), (hb.cell (p := ⟨g8, 3, none⟩) hk8).trans (h8 3 _ rfl)⟩))
  clear hx h6 h8 hk0 hk6 hk8 hw4 hg6 hg8 hB3 hB2 hB1 hb2 hb3 hc hz1 hz2 hz3
  have b4 : Below w4.heap.size w4 w4.drew := (Below.refl _ _).drew
  refine wp_region_held_drew (S := (fun w' => w'.cell? ⟨w.heap.size, 0, none⟩ = some (.int .u64 x0) ∧ w'.cell? ⟨w.heap.size, 1, none⟩ = some (.int .u64 x1) ∧ w'.cell? ⟨w.heap.size, 2, none⟩ = some (.int .u64 x2) ∧ w'.cell? ⟨w.heap.size, 3, none⟩ = some (.int .u64 x3) ∧ w'.cell? ⟨g6, 0, none⟩ = some (.int .u64 a0) ∧ w'.cell? ⟨g6, 1, none⟩ = some (.int .u64 a1) ∧ w'.cell? ⟨g6, 2, none⟩ = some (.int .u64 a2) ∧ w'.cell? ⟨g6, 3, none⟩ = some (.int .u64 a3) ∧ w'.cell? ⟨g8, 0, none⟩ = some (.int .u64 a0) ∧ w'.cell? ⟨g8, 1, none⟩ = some (.int .u64 a1) ∧ w'.cell? ⟨g8, 2, none⟩ = some (.int .u64 a2) ∧ w'.cell? ⟨g8, 3, none⟩ = some (.int .u64 a3))) (by kernel_rfl) (HS.out _ b4) (fun hHeld => ?_)
  refine wpAnyH_take (i := 0) (v := .bool true) rfl (by kernel_rfl) (by kernel_rfl) (by kernel_rfl) (fun _ _ _ h => h) (.inl ⟨by rfl, ?_⟩) (by assumption) ?_
  · intro w0 hSw
    go_simp
  simp only [Act.put, List.getElem_toArray, List.getElem_cons_zero, List.setIfInBounds_toArray, List.set_cons_zero, List.set_cons_succ]
  refine wpAnyH_take (i := 1) (v := .bool true) rfl (by kernel_rfl) (by kernel_rfl) (by kernel_rfl) (fun _ _ _ h => h) (.inl ⟨by rfl, ?_⟩) (by assumption) ?_
  · intro w0 hSw
    go_simp
  simp only [Act.put, List.getElem_toArray, List.getElem_cons_zero, List.getElem_cons_succ, List.setIfInBounds_toArray, List.set_cons_zero, List.set_cons_succ]
  refine wpAnyH_take (i := 2) (v := .agg #[.int .u64 x0, .int .u64 x1, .int .u64 x2, .int .u64 x3]) rfl (by kernel_rfl) (by kernel_rfl) (by kernel_rfl) (fun _ _ _ h => h) (.inl ⟨by rfl, ?_⟩) (by assumption) ?_
  · intro w0 hSw
    obtain ⟨z0, z1, z2, z3, z4, z5, z6, z7, z8, z9, z10, z11⟩ := hSw
    go_simp
  simp only [Act.put, List.getElem_toArray, List.getElem_cons_zero, List.getElem_cons_succ, List.setIfInBounds_toArray, List.set_cons_zero, List.set_cons_succ]
  refine wpAnyH_take (i := 4) (v := .agg #[.int .u64 x0, .int .u64 x1, .int .u64 x2, .int .u64 x3]) rfl (by kernel_rfl) (by kernel_rfl) (by kernel_rfl) (fun _ _ _ h => h) (.inl ⟨by rfl, ?_⟩) (by assumption) ?_
  · intro w0 hSw
    obtain ⟨z0, z1, z2, z3, z4, z5, z6, z7, z8, z9, z10, z11⟩ := hSw
    go_simp
  simp only [Act.put, List.getElem_toArray, List.getElem_cons_zero, List.getElem_cons_succ, List.setIfInBounds_toArray, List.set_cons_zero, List.set_cons_succ]
  refine wpAnyH_ready (rs := [3]) (by kernel_rfl) (by simp) ?_
  refine AllReadyH.cons rfl (fun K hK => ?_) AllReadyH.nil
  go_simp
  go_at_call 11
  refine (H3.out _).mono ?_
  rintro e w5 ⟨rfl, hb5⟩
  have b5 := b4.trans (hb5.mono b4.size)
  refine hK.out _ _ (HS.out _ b5) (fun hHeld => ?_)
  clear hK K
  try simp only [Act.put, List.getElem_toArray, List.getElem_cons_zero, List.getElem_cons_succ, List.setIfInBounds_toArray, List.set_cons_zero, List.set_cons_succ]
  refine wpAnyH_ready (rs := [5]) (by kernel_rfl) (by simp) ?_
  refine AllReadyH.cons rfl (fun K hK => ?_) AllReadyH.nil
  go_simp
  go_at_call 12
  refine (H4.out _).mono ?_
  rintro e w6 ⟨rfl, hb6⟩
  have b6 := b5.trans (hb6.mono b5.size)
  refine hK.out _ _ (HS.out _ b6) (fun hHeld => ?_)
  clear hK K
  try simp only [Act.put, List.getElem_toArray, List.getElem_cons_zero, List.getElem_cons_succ, List.setIfInBounds_toArray, List.set_cons_zero, List.set_cons_succ]
  refine wpAnyH_take (i := 6) (v := .bool true) rfl (by kernel_rfl) (by kernel_rfl) (by kernel_rfl) (fun _ _ _ h => h) (.inl ⟨by rfl, ?_⟩) (by assumption) ?_
  · intro w0 hSw
    go_simp
  simp only [Act.put, List.getElem_toArray, List.getElem_cons_zero, List.getElem_cons_succ, List.setIfInBounds_toArray, List.set_cons_zero, List.set_cons_succ]
  refine wpAnyH_take (i := 7) (v := .bool true) rfl (by kernel_rfl) (by kernel_rfl) (by kernel_rfl) (fun _ _ _ h => h) (.inl ⟨by rfl, ?_⟩) (by assumption) ?_
  · intro w0 hSw
    go_simp
  simp only [Act.put, List.getElem_toArray, List.getElem_cons_zero, List.getElem_cons_succ, List.setIfInBounds_toArray, List.set_cons_zero, List.set_cons_succ]
  refine wpAnyH_take (i := 8) (v := .bool true) rfl (by kernel_rfl) (by kernel_rfl) (by kernel_rfl) (fun _ _ _ h => h) (.inl ⟨by rfl, ?_⟩) (by assumption) ?_
  · intro w0 hSw
    go_simp
  simp only [Act.put, List.getElem_toArray, List.getElem_cons_zero, List.getElem_cons_succ, List.setIfInBounds_toArray, List.set_cons_zero, List.set_cons_succ]
  refine wpAnyH_take (i := 9) (v := .agg #[.int .u64 a0, .int .u64 a1, .int .u64 a2, .int .u64 a3]) rfl (by kernel_rfl) (by kernel_rfl) (by kernel_rfl) (fun _ _ _ h => h) (.inl ⟨by rfl, ?_⟩) (by assumption) ?_
  · intro w0 hSw
    obtain ⟨z0, z1, z2, z3, z4, z5, z6, z7, z8, z9, z10, z11⟩ := hSw
    go_simp
  simp only [Act.put, List.getElem_toArray, List.getElem_cons_zero, List.getElem_cons_succ, List.setIfInBounds_toArray, List.set_cons_zero, List.set_cons_succ]
  refine wpAnyH_take (i := 10) (v := .agg #[.int .u64 a0, .int .u64 a1, .int .u64 a2, .int .u64 a3]) rfl (by kernel_rfl) (by kernel_rfl) (by kernel_rfl) (fun _ _ _ h => h) (.inl ⟨by rfl, ?_⟩) (by assumption) ?_
  · intro w0 hSw
    obtain ⟨z0, z1, z2, z3, z4, z5, z6, z7, z8, z9, z10, z11⟩ := hSw
    go_simp
  simp only [Act.put, List.getElem_toArray, List.getElem_cons_zero, List.getElem_cons_succ, List.setIfInBounds_toArray, List.set_cons_zero, List.set_cons_succ]
  refine wpAnyH_take (i := 11) (v := .bool true) rfl (by kernel_rfl) (by kernel_rfl) (by kernel_rfl) (fun _ _ _ h => h) (.inl ⟨by rfl, ?_⟩) (by assumption) ?_
  · intro w0 hSw
    go_simp
  simp only [Act.put, List.getElem_toArray, List.getElem_cons_zero, List.getElem_cons_succ, List.setIfInBounds_toArray, List.set_cons_zero, List.set_cons_succ]
  refine wpAnyH_take (i := 12) (v := .bool true) rfl (by kernel_rfl) (by kernel_rfl) (by kernel_rfl) (fun _ _ _ h => h) (.inl ⟨by rfl, ?_⟩) (by assumption) ?_
  · intro w0 hSw
    go_simp
  simp only [Act.put, List.getElem_toArray, List.getElem_cons_zero, List.getElem_cons_succ, List.setIfInBounds_toArray, List.set_cons_zero, List.set_cons_succ]
  refine wpAnyH_take (i := 13) (v := .bool true) rfl (by kernel_rfl) (by kernel_rfl) (by kernel_rfl) (fun _ _ _ h => h) (.inl ⟨by rfl, ?_⟩) (by assumption) ?_
  · intro w0 hSw
    go_simp
  simp only [Act.put, List.getElem_toArray, List.getElem_cons_zero, List.getElem_cons_succ, List.setIfInBounds_toArray, List.set_cons_zero, List.set_cons_succ]
  refine wpAnyH_take (i := 14) (v := .int .i64 n) rfl (by kernel_rfl) (by kernel_rfl) (by kernel_rfl) (fun _ _ _ h => h) (.inl ⟨by rfl, ?_⟩) (by assumption) ?_
  · intro w0 hSw
    go_simp
  simp only [Act.put, List.getElem_toArray, List.getElem_cons_zero, List.getElem_cons_succ, List.setIfInBounds_toArray, List.set_cons_zero, List.set_cons_succ]
  refine wpAnyH_take (i := 15) (v := .int .i64 n) rfl (by kernel_rfl) (by kernel_rfl) (by kernel_rfl) (fun _ _ _ h => h) (.inl ⟨by rfl, ?_⟩) (by assumption) ?_
  · intro w0 hSw
    go_simp
  simp only [Act.put, List.getElem_toArray, List.getElem_cons_zero, List.getElem_cons_succ, List.setIfInBounds_toArray, List.set_cons_zero, List.set_cons_succ]
  refine wpAnyH_take (i := 16) (v := .bool true) rfl (by kernel_rfl) (by kernel_rfl) (by kernel_rfl) (fun _ _ _ h => h) (.inl ⟨by rfl, ?_⟩) (by assumption) ?_
  · intro w0 hSw
    go_simp
  simp only [Act.put, List.getElem_toArray, List.getElem_cons_zero, List.getElem_cons_succ, List.setIfInBounds_toArray, List.set_cons_zero, List.set_cons_succ]
  refine wpAnyH_take (i := 17) (v := .bool true) rfl (by kernel_rfl) (by kernel_rfl) (by kernel_rfl) (fun _ _ _ h => h) (.inl ⟨by rfl, ?_⟩) (by assumption) ?_
  · intro w0 hSw
    go_simp
  simp only [Act.put, List.getElem_toArray, List.getElem_cons_zero, List.getElem_cons_succ, List.setIfInBounds_toArray, List.set_cons_zero, List.set_cons_succ]
  refine wpAnyH_take (i := 18) (v := .bool true) rfl (by kernel_rfl) (by kernel_rfl) (by kernel_rfl) (fun _ _ _ h => h) (.inl ⟨by rfl, ?_⟩) (by assumption) ?_
  · intro w0 hSw
    go_simp
  simp only [Act.put, List.getElem_toArray, List.getElem_cons_zero, List.getElem_cons_succ, List.setIfInBounds_toArray, List.set_cons_zero, List.set_cons_succ]
  refine wpAnyH_done (by kernel_rfl) ?_ 0
  go_wp2
  go_ret
  exact ⟨rfl, HB4.out.trans (b6.mono HB4.out.size)⟩
theorem law_slotsW (v : Nat) (s : ByteArray) (w : World) (_ : v < 256 ^ 32) (hs : s.size ≤ 1048576) :
    Calls Tryd.prog 3 #[wordV v, .string s] w fun e w' => e = .returned (.bool true) ∧ Below w.heap.size w w' := law_slots v s w hs
end Go.Proofs.YtmjblnhnadffmaaDoor
