/- The walks of the laws AcctSlots and AcctSizes: each returns true, and nothing that was there is changed. -/
import Derived.Test.YtmjblnhnadffmaaDoorAccF
namespace Go.Proofs.YtmjblnhnadffmaaDoor
open Go.RowKit Go.Shelf Go.Lib

theorem slotFrom_lt (s : List UInt8) : (slotFrom s).1 < 256 ^ 32 := by
  unfold slotFrom
  split
  · decide
  · exact wordOf_lt _
theorem slotFrom_lit {s : ByteArray} {v : Nat} {n : Int} (h : slotFrom s.data.toList = (v, n)) (hs : s.size ≤ 1099511627776) (W : World) :
    Calls Tryd.prog 9 #[.string s] W fun e w' => e = .returned (.tuple #[wordV v, .int .i64 n]) ∧ Below W.heap.size W w' := by
  have := slotFrom_any s.data.toList W hs
  rw [h] at this
  exact this
theorem slotFromRef_lit {s : ByteArray} {v : Nat} {n : Int} (h : slotFrom s.data.toList = (v, n)) (hs : s.size ≤ 1099511627776) (W : World) :
    Calls Tryd.prog 10 #[.string s] W fun e w' => e = .returned (.tuple #[wordV v, .int .i64 n]) ∧ Below W.heap.size W w' := by
  have := slotFromRef_any s.data.toList W hs
  rw [h] at this
  exact this

set_option maxRecDepth 100000 in
set_option maxHeartbeats 3200000 in
theorem law_slots (v : Nat) (s : ByteArray) (w : World) (hs : s.size ≤ 1048576) :
    Calls Tryd.prog 3 #[wordV v, .string s] w fun e w' => e = .returned (.bool true) ∧ Below w.heap.size w w' := by
  obtain ⟨u, n, hr⟩ : ∃ u n, slotFrom s.data.toList = (u, n) := ⟨_, _, rfl⟩
  have hu : u < 256 ^ 32 := by have := slotFrom_lt s.data.toList; rw [hr] at this; exact this
  have H1 := Lib.hid (fun W => slotFrom_lit hr (by omega) W)
  have H2 := Lib.hid (fun W => slotFromRef_lit hr (by omega) W)
  have H3 := Lib.hid (fun W => slot_any v W)
  have H4 := Lib.hid (fun W => slotRef_any v W)
  obtain ⟨sl, hsl⟩ : ∃ sl, slotL v = sl := ⟨_, rfl⟩
  rw [hsl] at H3 H4
  have hq0 := fun W => eq_wordV hu hu W
  obtain ⟨x0, x1, x2, x3, hv, -⟩ := wordV_form v
  rw [hv] at H3 H4 ⊢
  obtain ⟨a0, a1, a2, a3, ha, -⟩ := wordV_form u
  rw [ha] at H1 H2 hq0
  have hq : ∀ W, (Op.equalIn 10000 24 (.agg #[.int .u64 a0, .int .u64 a1, .int .u64 a2, .int .u64 a3]) (.agg #[.int .u64 a0, .int .u64 a1, .int .u64 a2, .int .u64 a3])).run Tryd.prog W = .ok true W := fun W => by
    rw [hq0]; simp
  clear hq0 hv ha hsl hr hu
  go_enter Tryd.func3, Tryd.ntmps3
  go_wp2_with fail
  refine (shown16_any _).mono ?_
  rintro e w1 ⟨rfl, hb1⟩
  have hB1 := (laid1 w _).trans (hb1.mono (by simp))
  have hc := fun (j : Nat) (u : Value) (hj : [Value.int .u64 x0, .int .u64 x1, .int .u64 x2, .int .u64 x3][j]? = some u) => (hb1.cell (p := ⟨w.heap.size, j, none⟩) (by simp)).trans (cells_at w [.int .u64 x0, .int .u64 x1, .int .u64 x2, .int .u64 x3] 24 j u hj)
  have hz1 : w.heap.size < w1.heap.size := by have := hb1.size; simp at this; omega
  clear hb1
  go_wp2_with fail
  refine (H1.out _).mono ?_
  rintro e w2 ⟨rfl, hb2⟩
  have hB2 := hB1.trans (hb2.mono hB1.size)
  have hz2 := hb2.size
  go_wp2_with fail
  refine (H2.out _).mono ?_
  rintro e w3 ⟨rfl, hb3⟩
  have hz3 := hb3.size
  simp at hz3
  have hB3 := (hB2.alloc hB2.size _).trans (hb3.mono (by simp; omega))
  have HB4 := hB3.alloc hB3.size (.cells #[.int .u64 a0, .int .u64 a1, .int .u64 a2, .int .u64 a3] 24)
  have hx : ∀ (j : Nat) (u : Value), [Value.int .u64 x0, .int .u64 x1, .int .u64 x2, .int .u64 x3][j]? = some u → (w3.alloc (.cells #[.int .u64 a0, .int .u64 a1, .int .u64 a2, .int .u64 a3] 24)).cell? ⟨w.heap.size, j, none⟩ = some u := fun j u hj => by
    rw [World.cell?_alloc_past _ _ _ (by omega)]
    refine (hb3.cell (p := ⟨w.heap.size, j, none⟩) (by simp; omega)).trans ?_
    rw [World.cell?_alloc_past _ _ _ (by omega)]
    exact (hb2.cell (p := ⟨w.heap.size, j, none⟩) hz1).trans (hc j u hj)
  have h6 : ∀ (j : Nat) (u : Value), [Value.int .u64 a0, .int .u64 a1, .int .u64 a2, .int .u64 a3][j]? = some u → (w3.alloc (.cells #[.int .u64 a0, .int .u64 a1, .int .u64 a2, .int .u64 a3] 24)).cell? ⟨w2.heap.size, j, none⟩ = some u := fun j u hj => by
    rw [World.cell?_alloc_past _ _ _ (by omega)]
    exact (hb3.cell (p := ⟨w2.heap.size, j, none⟩) (by simp)).trans (cells_at w2 [.int .u64 a0, .int .u64 a1, .int .u64 a2, .int .u64 a3] 24 j u hj)
  have h8 : ∀ (j : Nat) (u : Value), [Value.int .u64 a0, .int .u64 a1, .int .u64 a2, .int .u64 a3][j]? = some u → (w3.alloc (.cells #[.int .u64 a0, .int .u64 a1, .int .u64 a2, .int .u64 a3] 24)).cell? ⟨w3.heap.size, j, none⟩ = some u := cells_at w3 [.int .u64 a0, .int .u64 a1, .int .u64 a2, .int .u64 a3] 24
  have hk6 : w2.heap.size < (w3.alloc (.cells #[.int .u64 a0, .int .u64 a1, .int .u64 a2, .int .u64 a3] 24)).heap.size := by simp; omega
  have hk8 : w3.heap.size < (w3.alloc (.cells #[.int .u64 a0, .int .u64 a1, .int .u64 a2, .int .u64 a3] 24)).heap.size := by simp
  go_wp2_with fail
  obtain ⟨g6, hg6⟩ : ∃ g, w2.heap.size = g := ⟨_, rfl⟩
  obtain ⟨g8, hg8⟩ : ∃ g, w3.heap.size = g := ⟨_, rfl⟩
  rw [hg6, hg8]
  rw [hg6] at h6 hk6
  rw [hg8] at h8 hk8
  obtain ⟨w4, hw4⟩ : ∃ w4, w3.alloc (.cells #[.int .u64 a0, .int .u64 a1, .int .u64 a2, .int .u64 a3] 24) = w4 := ⟨_, rfl⟩
  rw [hw4] at hx h6 h8 hk6 hk8 HB4 ⊢
  have hk0 : w.heap.size < w4.heap.size := World.block_lt_of_cell? w4 _ (hx 0 _ rfl)
  have HB4 := Lib.hid HB4
  have HS := Lib.hid (fun W' (hb : Below w4.heap.size w4 W') => (show W'.cell? ⟨w.heap.size, 0, none⟩ = some (.int .u64 x0) ∧ W'.cell? ⟨w.heap.size, 1, none⟩ = some (.int .u64 x1) ∧ W'.cell? ⟨w.heap.size, 2, none⟩ = some (.int .u64 x2) ∧ W'.cell? ⟨w.heap.size, 3, none⟩ = some (.int .u64 x3) ∧ W'.cell? ⟨g6, 0, none⟩ = some (.int .u64 a0) ∧ W'.cell? ⟨g6, 1, none⟩ = some (.int .u64 a1) ∧ W'.cell? ⟨g6, 2, none⟩ = some (.int .u64 a2) ∧ W'.cell? ⟨g6, 3, none⟩ = some (.int .u64 a3) ∧ W'.cell? ⟨g8, 0, none⟩ = some (.int .u64 a0) ∧ W'.cell? ⟨g8, 1, none⟩ = some (.int .u64 a1) ∧ W'.cell? ⟨g8, 2, none⟩ = some (.int .u64 a2) ∧ W'.cell? ⟨g8, 3, none⟩ = some (.int .u64 a3) from
    ⟨(hb.cell (p := ⟨w.heap.size, 0, none⟩) hk0).trans (hx 0 _ rfl), (hb.cell (p := ⟨w.heap.size, 1, none⟩) hk0).trans (hx 1 _ rfl), (hb.cell (p := ⟨w.heap.size, 2, none⟩) hk0).trans (hx 2 _ rfl), (hb.cell (p := ⟨w.heap.size, 3, none⟩) hk0).trans (hx 3 _ rfl), (hb.cell (p := ⟨g6, 0, none⟩) hk6).trans (h6 0 _ rfl), (hb.cell (p := ⟨g6, 1, none⟩) hk6).trans (h6 1 _ rfl), (hb.cell (p := ⟨g6, 2, none⟩) hk6).trans (h6 2 _ rfl), (hb.cell (p := ⟨g6, 3, none⟩) hk6).trans (h6 3 _ rfl), (hb.cell (p := ⟨g8, 0, none⟩) hk8).trans (h8 0 _ rfl), (hb.cell (p := ⟨g8, 1, none⟩) hk8).trans (h8 1 _ rfl), (hb.cell (p := ⟨g8, 2, none⟩) hk8).trans (h8 2 _ rfl), (hb.cell (p := ⟨g8, 3, none⟩) hk8).trans (h8 3 _ rfl)⟩))
  clear hx h6 h8 hk0 hk6 hk8 hw4 hg6 hg8 hB3 hB2 hB1 hb2 hb3 hc hz1 hz2 hz3
  have b4 : Below w4.heap.size w4 w4.drew := (Below.refl _ _).drew
  refine wp_region_held_drew (S := (fun w' => w'.cell? ⟨w.heap.size, 0, none⟩ = some (.int .u64 x0) ∧ w'.cell? ⟨w.heap.size, 1, none⟩ = some (.int .u64 x1) ∧ w'.cell? ⟨w.heap.size, 2, none⟩ = some (.int .u64 x2) ∧ w'.cell? ⟨w.heap.size, 3, none⟩ = some (.int .u64 x3) ∧ w'.cell? ⟨g6, 0, none⟩ = some (.int .u64 a0) ∧ w'.cell? ⟨g6, 1, none⟩ = some (.int .u64 a1) ∧ w'.cell? ⟨g6, 2, none⟩ = some (.int .u64 a2) ∧ w'.cell? ⟨g6, 3, none⟩ = some (.int .u64 a3) ∧ w'.cell? ⟨g8, 0, none⟩ = some (.int .u64 a0) ∧ w'.cell? ⟨g8, 1, none⟩ = some (.int .u64 a1) ∧ w'.cell? ⟨g8, 2, none⟩ = some (.int .u64 a2) ∧ w'.cell? ⟨g8, 3, none⟩ = some (.int .u64 a3))) (by kernel_rfl) (HS.out _ b4) (fun hHeld => ?_)
  refine wpAnyH_take (i := 0) (v := .bool true) rfl (by kernel_rfl) (by kernel_rfl) (by kernel_rfl) (fun _ _ _ h => h) (.inl ⟨by rfl, ?_⟩) (by assumption) ?_
  · intro w0 hSw
    go_simp
  simp only [Act.put, List.getElem_toArray, List.getElem_cons_zero, List.setIfInBounds_toArray, List.set_cons_zero, List.set_cons_succ]
  refine wpAnyH_take (i := 1) (v := .bool true) rfl (by kernel_rfl) (by kernel_rfl) (by kernel_rfl) (fun _ _ _ h => h) (.inl ⟨by rfl, ?_⟩) (by assumption) ?_
  · intro w0 hSw
    go_simp
  simp only [Act.put, List.getElem_toArray, List.getElem_cons_zero, List.getElem_cons_succ, List.setIfInBounds_toArray, List.set_cons_zero, List.set_cons_succ]
  refine wpAnyH_take (i := 2) (v := .agg #[.int .u64 x0, .int .u64 x1, .int .u64 x2, .int .u64 x3]) rfl (by kernel_rfl) (by kernel_rfl) (by kernel_rfl) (fun _ _ _ h => h) (.inl ⟨by rfl, ?_⟩) (by assumption) ?_
  · intro w0 hSw
    obtain ⟨z0, z1, z2, z3, z4, z5, z6, z7, z8, z9, z10, z11⟩ := hSw
    go_simp
  simp only [Act.put, List.getElem_toArray, List.getElem_cons_zero, List.getElem_cons_succ, List.setIfInBounds_toArray, List.set_cons_zero, List.set_cons_succ]
  refine wpAnyH_take (i := 4) (v := .agg #[.int .u64 x0, .int .u64 x1, .int .u64 x2, .int .u64 x3]) rfl (by kernel_rfl) (by kernel_rfl) (by kernel_rfl) (fun _ _ _ h => h) (.inl ⟨by rfl, ?_⟩) (by assumption) ?_
  · intro w0 hSw
    obtain ⟨z0, z1, z2, z3, z4, z5, z6, z7, z8, z9, z10, z11⟩ := hSw
    go_simp
  simp only [Act.put, List.getElem_toArray, List.getElem_cons_zero, List.getElem_cons_succ, List.setIfInBounds_toArray, List.set_cons_zero, List.set_cons_succ]
  refine wpAnyH_ready (rs := [3]) (by kernel_rfl) (by simp) ?_
  refine AllReadyH.cons rfl (fun K hK => ?_) AllReadyH.nil
  go_simp
  go_at_call 11
  refine (H3.out _).mono ?_
  rintro e w5 ⟨rfl, hb5⟩
  have b5 := b4.trans (hb5.mono b4.size)
  refine hK.out _ _ (HS.out _ b5) (fun hHeld => ?_)
  clear hK K
  try simp only [Act.put, List.getElem_toArray, List.getElem_cons_zero, List.getElem_cons_succ, List.setIfInBounds_toArray, List.set_cons_zero, List.set_cons_succ]
  refine wpAnyH_ready (rs := [5]) (by kernel_rfl) (by simp) ?_
  refine AllReadyH.cons rfl (fun K hK => ?_) AllReadyH.nil
  go_simp
  go_at_call 12
  refine (H4.out _).mono ?_
  rintro e w6 ⟨rfl, hb6⟩
  have b6 := b5.trans (hb6.mono b5.size)
  refine hK.out _ _ (HS.out _ b6) (fun hHeld => ?_)
  clear hK K
  try simp only [Act.put, List.getElem_toArray, List.getElem_cons_zero, List.getElem_cons_succ, List.setIfInBounds_toArray, List.set_cons_zero, List.set_cons_succ]
  refine wpAnyH_take (i := 6) (v := .bool true) rfl (by kernel_rfl) (by kernel_rfl) (by kernel_rfl) (fun _ _ _ h => h) (.inl ⟨by rfl, ?_⟩) (by assumption) ?_
  · intro w0 hSw
    go_simp
  simp only [Act.put, List.getElem_toArray, List.getElem_cons_zero, List.getElem_cons_succ, List.setIfInBounds_toArray, List.set_cons_zero, List.set_cons_succ]
  refine wpAnyH_take (i := 7) (v := .bool true) rfl (by kernel_rfl) (by kernel_rfl) (by kernel_rfl) (fun _ _ _ h => h) (.inl ⟨by rfl, ?_⟩) (by assumption) ?_
  · intro w0 hSw
    go_simp
  simp only [Act.put, List.getElem_toArray, List.getElem_cons_zero, List.getElem_cons_succ, List.setIfInBounds_toArray, List.set_cons_zero, List.set_cons_succ]
  refine wpAnyH_take (i := 8) (v := .bool true) rfl (by kernel_rfl) (by kernel_rfl) (by kernel_rfl) (fun _ _ _ h => h) (.inl ⟨by rfl, ?_⟩) (by assumption) ?_
  · intro w0 hSw
    go_simp
  simp only [Act.put, List.getElem_toArray, List.getElem_cons_zero, List.getElem_cons_succ, List.setIfInBounds_toArray, List.set_cons_zero, List.set_cons_succ]
  refine wpAnyH_take (i := 9) (v := .agg #[.int .u64 a0, .int .u64 a1, .int .u64 a2, .int .u64 a3]) rfl (by kernel_rfl) (by kernel_rfl) (by kernel_rfl) (fun _ _ _ h => h) (.inl ⟨by rfl, ?_⟩) (by assumption) ?_
  · intro w0 hSw
    obtain ⟨z0, z1, z2, z3, z4, z5, z6, z7, z8, z9, z10, z11⟩ := hSw
    go_simp
  simp only [Act.put, List.getElem_toArray, List.getElem_cons_zero, List.getElem_cons_succ, List.setIfInBounds_toArray, List.set_cons_zero, List.set_cons_succ]
  refine wpAnyH_take (i := 10) (v := .agg #[.int .u64 a0, .int .u64 a1, .int .u64 a2, .int .u64 a3]) rfl (by kernel_rfl) (by kernel_rfl) (by kernel_rfl) (fun _ _ _ h => h) (.inl ⟨by rfl, ?_⟩) (by assumption) ?_
  · intro w0 hSw
    obtain ⟨z0, z1, z2, z3, z4, z5, z6, z7, z8, z9, z10, z11⟩ := hSw
    go_simp
  simp only [Act.put, List.getElem_toArray, List.getElem_cons_zero, List.getElem_cons_succ, List.setIfInBounds_toArray, List.set_cons_zero, List.set_cons_succ]
  refine wpAnyH_take (i := 11) (v := .bool true) rfl (by kernel_rfl) (by kernel_rfl) (by kernel_rfl) (fun _ _ _ h => h) (.inl ⟨by rfl, ?_⟩) (by assumption) ?_
  · intro w0 hSw
    go_simp
  simp only [Act.put, List.getElem_toArray, List.getElem_cons_zero, List.getElem_cons_succ, List.setIfInBounds_toArray, List.set_cons_zero, List.set_cons_succ]
  refine wpAnyH_take (i := 12) (v := .bool true) rfl (by kernel_rfl) (by kernel_rfl) (by kernel_rfl) (fun _ _ _ h => h) (.inl ⟨by rfl, ?_⟩) (by assumption) ?_
  · intro w0 hSw
    go_simp
  simp only [Act.put, List.getElem_toArray, List.getElem_cons_zero, List.getElem_cons_succ, List.setIfInBounds_toArray, List.set_cons_zero, List.set_cons_succ]
  refine wpAnyH_take (i := 13) (v := .bool true) rfl (by kernel_rfl) (by kernel_rfl) (by kernel_rfl) (fun _ _ _ h => h) (.inl ⟨by rfl, ?_⟩) (by assumption) ?_
  · intro w0 hSw
    go_simp
  simp only [Act.put, List.getElem_toArray, List.getElem_cons_zero, List.getElem_cons_succ, List.setIfInBounds_toArray, List.set_cons_zero, List.set_cons_succ]
  refine wpAnyH_take (i := 14) (v := .int .i64 n) rfl (by kernel_rfl) (by kernel_rfl) (by kernel_rfl) (fun _ _ _ h => h) (.inl ⟨by rfl, ?_⟩) (by assumption) ?_
  · intro w0 hSw
    go_simp
  simp only [Act.put, List.getElem_toArray, List.getElem_cons_zero, List.getElem_cons_succ, List.setIfInBounds_toArray, List.set_cons_zero, List.set_cons_succ]
  refine wpAnyH_take (i := 15) (v := .int .i64 n) rfl (by kernel_rfl) (by kernel_rfl) (by kernel_rfl) (fun _ _ _ h => h) (.inl ⟨by rfl, ?_⟩) (by assumption) ?_
  · intro w0 hSw
    go_simp
  simp only [Act.put, List.getElem_toArray, List.getElem_cons_zero, List.getElem_cons_succ, List.setIfInBounds_toArray, List.set_cons_zero, List.set_cons_succ]
  refine wpAnyH_take (i := 16) (v := .bool true) rfl (by kernel_rfl) (by kernel_rfl) (by kernel_rfl) (fun _ _ _ h => h) (.inl ⟨by rfl, ?_⟩) (by assumption) ?_
  · intro w0 hSw
    go_simp
  simp only [Act.put, List.getElem_toArray, List.getElem_cons_zero, List.getElem_cons_succ, List.setIfInBounds_toArray, List.set_cons_zero, List.set_cons_succ]
  refine wpAnyH_take (i := 17) (v := .bool true) rfl (by kernel_rfl) (by kernel_rfl) (by kernel_rfl) (fun _ _ _ h => h) (.inl ⟨by rfl, ?_⟩) (by assumption) ?_
  · intro w0 hSw
    go_simp
  simp only [Act.put, List.getElem_toArray, List.getElem_cons_zero, List.getElem_cons_succ, List.setIfInBounds_toArray, List.set_cons_zero, List.set_cons_succ]
  refine wpAnyH_take (i := 18) (v := .bool true) rfl (by kernel_rfl) (by kernel_rfl) (by kernel_rfl) (fun _ _ _ h => h) (.inl ⟨by rfl, ?_⟩) (by assumption) ?_
  · intro w0 hSw
    go_simp
  simp only [Act.put, List.getElem_toArray, List.getElem_cons_zero, List.getElem_cons_succ, List.setIfInBounds_toArray, List.set_cons_zero, List.set_cons_succ]
  refine wpAnyH_done (by kernel_rfl) ?_ 0
  go_wp2
  go_ret
  exact ⟨rfl, HB4.out.trans (b6.mono HB4.out.size)⟩
theorem law_slotsW (v : Nat) (s : ByteArray) (w : World) (_ : v < 256 ^ 32) (hs : s.size ≤ 1048576) :
    Calls Tryd.prog 3 #[wordV v, .string s] w fun e w' => e = .returned (.bool true) ∧ Below w.heap.size w w' := law_slots v s w hs
end Go.Proofs.YtmjblnhnadffmaaDoor
/- The walk of the law AcctSizes: it returns true, and nothing that was there is changed. -/
namespace Go.Proofs.YtmjblnhnadffmaaDoor
open Go.RowKit Go.Shelf Go.Lib

theorem slotFrom_of {l t : List UInt8} {v : Nat} (hd : decode l = (.mk false t [], 0)) (hs : isShortW t = true) (hw : wordOf t = v) : slotFrom l = if v = 0 then (0, 160) else (v, 0) := by
  have hz := isShortW_zero hs
  rw [hw] at hz
  have e : slotFrom l = if (0 : Int) ≠ 0 ∨ false = true ∨ isShortW t = false ∨ t = [] then (0, 160) else (wordOf t, 0) := by
    unfold slotFrom; rw [hd]; rfl
  rw [e, hs, hw]
  by_cases h0 : v = 0
  · rw [if_pos (.inr (.inr (.inr (hz.1 h0)))), if_pos h0]
  · rw [if_neg h0, if_neg]
    rintro (h | h | h | h)
    · exact h rfl
    · cases h
    · cases h
    · exact h0 (hz.2 h)
theorem slotFrom_slotL {v : Nat} (hv : v < 256 ^ 32) : slotFrom (slotL v) = if v = 0 then (0, 160) else (v, 0) := by
  have hl := shortW_length v
  refine slotFrom_of (t := shortW v) ?_ (isShortW_iff.2 ⟨hl, shortW_head v⟩) (wordOf_shortW hv)
  unfold slotL
  exact decode_encode (encode_text (by omega))
theorem slotL_len (v : Nat) : 1 ≤ (slotL v).length ∧ (slotL v).length ≤ 33 := by
  have hl := shortW_length v
  have := putText_len (shortW v) (by omega)
  unfold slotL; omega
theorem acctBytes_lit {n b : Nat} {root code : ByteArray} {pl : List UInt8} {e : Int} (h : acctBytes n b root.data.toList code.data.toList = (pl, e)) (hn : n < 18446744073709551616) (w : World) :
    Calls Tryd.prog 13 #[acctV n b root code] w fun x w' => x = .returned (.tuple #[.string ⟨pl.toArray⟩, .int .i64 e]) ∧ Below w.heap.size w w' := by
  have := acctBytes_any n b root code w hn
  rw [h] at this
  exact this
/-- what AcctSizes asks of an account's bytes -/
theorem acct_facts (n b : Nat) (root code : ByteArray) {pl : List UInt8} {e : Int} (h : acctBytes n b root.data.toList code.data.toList = (pl, e)) :
    (root.size = 32 ∧ code.size = 32 ∧ e = 0 ∧ 66 < pl.length ∧ pl.length ≤ 112) ∨ (root.size ≠ 32 ∧ e = 160 ∧ pl = []) ∨ (root.size = 32 ∧ code.size ≠ 32 ∧ e = 160 ∧ pl = []) := by
  have hrl : root.data.toList.length = root.size := rfl
  have hcl : code.data.toList.length = code.size := rfl
  by_cases hr : root.size = 32
  · by_cases hc : code.size = 32
    · have := acct_put n b (root := root.data.toList) (code := code.data.toList) (by omega) (by omega)
      unfold acctBytes at h
      rw [if_neg (by omega)] at h
      cases h
      exact .inl ⟨hr, hc, rfl, this⟩
    · unfold acctBytes at h
      rw [if_pos (.inr (by omega))] at h
      cases h
      exact .inr (.inr ⟨hr, hc, rfl, rfl⟩)
  · unfold acctBytes at h
    rw [if_pos (.inl (by omega))] at h
    cases h
    exact .inr (.inl ⟨hr, rfl, rfl⟩)

set_option maxRecDepth 100000 in
set_option maxHeartbeats 6400000 in
theorem law_sizes (n b : Nat) (root code : ByteArray) (v : Nat) (w : World) (hn : n < 18446744073709551616) (_ : b < 256 ^ 32) (_ : root.size + code.size ≤ 1048576) (hv : v < 256 ^ 32) :
    Calls Tryd.prog 4 #[acctV n b root code, wordV v] w fun e w' => e = .returned (.bool true) ∧ Below w.heap.size w w' := by
  obtain ⟨pl, e, hB⟩ : ∃ pl e, acctBytes n b root.data.toList code.data.toList = (pl, e) := ⟨_, _, rfl⟩
  have hF := acct_facts n b root code hB
  have HF := Lib.hid hF
  have H1 := Lib.hid (fun W => acctBytes_lit hB hn W)
  have hS := slotFrom_slotL hv
  have hL := slotL_len v
  have H2 := Lib.hid (fun W => slot_any v W)
  obtain ⟨sl, hsl⟩ : ∃ sl, slotL v = sl := ⟨_, rfl⟩
  obtain ⟨u, f, hu⟩ : ∃ u f, slotFrom sl = (u, f) := ⟨_, _, rfl⟩
  rw [hsl] at hS hL H2
  have HV : Hid ((v = 0 ∧ f = 160) ∨ (v ≠ 0 ∧ f = 0)) := Lib.hid (by
    rw [hu] at hS
    by_cases h0 : v = 0
    · rw [if_pos h0] at hS; cases hS; exact .inl ⟨h0, rfl⟩
    · rw [if_neg h0] at hS; cases hS; exact .inr ⟨h0, rfl⟩)
  have H3 := Lib.hid (fun W => slotFrom_lit (s := ⟨sl.toArray⟩) (v := u) (n := f) (by simpa using hu) (by rw [size_mk]; omega) W)
  have HQ := Lib.hid (fun W => eq_wordV hv (show 0 < 256 ^ 32 by decide) W)
  obtain ⟨x0, x1, x2, x3, hw, -⟩ := wordV_form v
  obtain ⟨u0, u1, u2, u3, huw, -⟩ := wordV_form u
  rw [hw] at H2 HQ ⊢
  rw [huw] at H3
  have hd : ∃ a0 a1 a2 a3 : Nat, acctV n b root code = .agg #[.int .u64 n, .int .u64 a0, .int .u64 a1, .int .u64 a2, .int .u64 a3, .string root, .string code] := ⟨limb b 0, limb b 1, limb b 2, limb b 3, rfl⟩
  obtain ⟨a0, a1, a2, a3, ha⟩ := hd
  rw [ha] at H1 ⊢
  have g3 : decide ((1 : Int) ≤ sl.length) = true := by simp; omega
  have g4 : decide ((sl.length : Int) ≤ 33) = true := by simp; omega
  clear hF hB hS hL hsl hu hw huw ha hv hn
  go_enter Tryd.func4, Tryd.ntmps4
  go_wp2_with fail
  refine (shown16_any _).mono ?_
  rintro e' w1 ⟨rfl, hb1⟩
  have hc := fun (j : Nat) (y : Value) (hj : [Value.int .u64 n, .int .u64 a0, .int .u64 a1, .int .u64 a2, .int .u64 a3, .string root, .string code][j]? = some y) =>
    (hb1.cell (p := ⟨w.heap.size, j, none⟩) (by simp; omega)).trans ((World.cell?_alloc_past _ _ _ (by simp)).trans (cells_at w [.int .u64 n, .int .u64 a0, .int .u64 a1, .int .u64 a2, .int .u64 a3, .string root, .string code] 32 j y hj))
  have hx := fun (j : Nat) (y : Value) (hj : [Value.int .u64 x0, .int .u64 x1, .int .u64 x2, .int .u64 x3][j]? = some y) =>
    (hb1.cell (p := ⟨w.heap.size + 1, j, none⟩) (by simp)).trans (by simpa using cells_at (w.alloc (.cells #[.int .u64 n, .int .u64 a0, .int .u64 a1, .int .u64 a2, .int .u64 a3, .string root, .string code] 32)) [.int .u64 x0, .int .u64 x1, .int .u64 x2, .int .u64 x3] 24 j y hj)
  have hB1 := ((laid1 w _).alloc (by simp) _).trans (hb1.mono (by simp; omega))
  have hz1 : w.heap.size + 1 < w1.heap.size := World.block_lt_of_cell? w1 _ (hx 0 _ rfl)
  clear hb1
  have c0 := hc 0 _ rfl
  have c1 := hc 1 _ rfl
  have c2 := hc 2 _ rfl
  have c3 := hc 3 _ rfl
  have c4 := hc 4 _ rfl
  have c5 := hc 5 _ rfl
  have c6 := hc 6 _ rfl
  go_wp2_with fail
  refine (H1.out _).mono ?_
  rintro e' w2 ⟨rfl, hb2⟩
  have hB2 := hB1.trans (hb2.mono hB1.size)
  have hz2 := hb2.size
  have c5' := (hb2.cell (p := ⟨w.heap.size, 5, none⟩) (by dsimp only; omega)).trans c5
  have c6' := (hb2.cell (p := ⟨w.heap.size, 6, none⟩) (by dsimp only; omega)).trans c6
  have x0' := (hb2.cell (p := ⟨w.heap.size + 1, 0, none⟩) hz1).trans (hx 0 _ rfl)
  have x1' := (hb2.cell (p := ⟨w.heap.size + 1, 1, none⟩) hz1).trans (hx 1 _ rfl)
  have x2' := (hb2.cell (p := ⟨w.heap.size + 1, 2, none⟩) hz1).trans (hx 2 _ rfl)
  have x3' := (hb2.cell (p := ⟨w.heap.size + 1, 3, none⟩) hz1).trans (hx 3 _ rfl)
  clear c0 c1 c2 c3 c4 c5 c6 hc hx
  go_wp2_with fail
  refine (H2.out _).mono ?_
  rintro e' w3 ⟨rfl, hb3⟩
  have hB3 := hB2.trans (hb3.mono hB2.size)
  have hz3 := hb3.size
  go_wp2_with fail
  refine (H3.out _).mono ?_
  rintro e' w4 ⟨rfl, hb4⟩
  have hB4 := hB3.trans (hb4.mono hB3.size)
  have hz4 := hb4.size
  have k5 := (hb4.cell (p := ⟨w.heap.size, 5, none⟩) (by dsimp only; omega)).trans ((hb3.cell (p := ⟨w.heap.size, 5, none⟩) (by dsimp only; omega)).trans c5')
  have k6 := (hb4.cell (p := ⟨w.heap.size, 6, none⟩) (by dsimp only; omega)).trans ((hb3.cell (p := ⟨w.heap.size, 6, none⟩) (by dsimp only; omega)).trans c6')
  have y0 := (hb4.cell (p := ⟨w.heap.size + 1, 0, none⟩) (by dsimp only; omega)).trans ((hb3.cell (p := ⟨w.heap.size + 1, 0, none⟩) (by dsimp only; omega)).trans x0')
  have y1 := (hb4.cell (p := ⟨w.heap.size + 1, 1, none⟩) (by dsimp only; omega)).trans ((hb3.cell (p := ⟨w.heap.size + 1, 1, none⟩) (by dsimp only; omega)).trans x1')
  have y2 := (hb4.cell (p := ⟨w.heap.size + 1, 2, none⟩) (by dsimp only; omega)).trans ((hb3.cell (p := ⟨w.heap.size + 1, 2, none⟩) (by dsimp only; omega)).trans x2')
  have y3 := (hb4.cell (p := ⟨w.heap.size + 1, 3, none⟩) (by dsimp only; omega)).trans ((hb3.cell (p := ⟨w.heap.size + 1, 3, none⟩) (by dsimp only; omega)).trans x3')
  have hl0 : w.heap.size < w4.heap.size := by omega
  have hl1 : w.heap.size + 1 < w4.heap.size := by omega
  have HB := Lib.hid (hB4.alloc hB4.size (.cells #[.int .u64 u0, .int .u64 u1, .int .u64 u2, .int .u64 u3] 24))
  clear hb2 hb3 hb4 hB1 hB2 hB3 hB4 hz1 hz2 hz3 hz4 c5' c6' x0' x1' x2' x3' H1 H2 H3
  rcases HF.out with ⟨hr, hc, rfl, h66, h112⟩ | ⟨hr, rfl, rfl⟩ | ⟨hr, hc, rfl, rfl⟩
  · have p1 : ((root.size : Int) == 32) = true := by rw [hr]; rfl
    have p2 : ((code.size : Int) == 32) = true := by rw [hc]; rfl
    have p3 : decide ((pl.length : Int) ≤ 112) = true := by simp; omega
    have p4 : decide ((66 : Int) < pl.length) = true := by simp; omega
    rcases HV.out with ⟨h0, rfl⟩ | ⟨h0, rfl⟩
    · have hq : ∀ W, (Op.equalIn 10000 24 (.agg #[.int .u64 x0, .int .u64 x1, .int .u64 x2, .int .u64 x3]) (.agg #[.int .u64 0, .int .u64 0, .int .u64 0, .int .u64 0])).run Tryd.prog W = .ok true W := fun W => by
        have := HQ.out W
        rw [decide_eq_true h0, wordV_zero] at this
        exact this
      clear h0 hr hc h66 h112
      go_wp2
      go_ret
      exact ⟨rfl, HB.out⟩
    · have hq : ∀ W, (Op.equalIn 10000 24 (.agg #[.int .u64 x0, .int .u64 x1, .int .u64 x2, .int .u64 x3]) (.agg #[.int .u64 0, .int .u64 0, .int .u64 0, .int .u64 0])).run Tryd.prog W = .ok false W := fun W => by
        have := HQ.out W
        rw [decide_eq_false h0, wordV_zero] at this
        exact this
      clear h0 hr hc h66 h112
      go_wp2
      go_ret
      exact ⟨rfl, HB.out⟩
  · have p1 : ((root.size : Int) == 32) = false := by rw [beq_eq_false_iff_ne]; omega
    rcases HV.out with ⟨h0, rfl⟩ | ⟨h0, rfl⟩
    · have hq : ∀ W, (Op.equalIn 10000 24 (.agg #[.int .u64 x0, .int .u64 x1, .int .u64 x2, .int .u64 x3]) (.agg #[.int .u64 0, .int .u64 0, .int .u64 0, .int .u64 0])).run Tryd.prog W = .ok true W := fun W => by
        have := HQ.out W
        rw [decide_eq_true h0, wordV_zero] at this
        exact this
      clear h0 hr
      go_wp2
      go_ret
      exact ⟨rfl, HB.out⟩
    · have hq : ∀ W, (Op.equalIn 10000 24 (.agg #[.int .u64 x0, .int .u64 x1, .int .u64 x2, .int .u64 x3]) (.agg #[.int .u64 0, .int .u64 0, .int .u64 0, .int .u64 0])).run Tryd.prog W = .ok false W := fun W => by
        have := HQ.out W
        rw [decide_eq_false h0, wordV_zero] at this
        exact this
      clear h0 hr
      go_wp2
      go_ret
      exact ⟨rfl, HB.out⟩
  · have p1 : ((root.size : Int) == 32) = true := by rw [hr]; rfl
    have p2 : ((code.size : Int) == 32) = false := by rw [beq_eq_false_iff_ne]; omega
    rcases HV.out with ⟨h0, rfl⟩ | ⟨h0, rfl⟩
    · have hq : ∀ W, (Op.equalIn 10000 24 (.agg #[.int .u64 x0, .int .u64 x1, .int .u64 x2, .int .u64 x3]) (.agg #[.int .u64 0, .int .u64 0, .int .u64 0, .int .u64 0])).run Tryd.prog W = .ok true W := fun W => by
        have := HQ.out W
        rw [decide_eq_true h0, wordV_zero] at this
        exact this
      clear h0 hr hc
      go_wp2
      go_ret
      exact ⟨rfl, HB.out⟩
    · have hq : ∀ W, (Op.equalIn 10000 24 (.agg #[.int .u64 x0, .int .u64 x1, .int .u64 x2, .int .u64 x3]) (.agg #[.int .u64 0, .int .u64 0, .int .u64 0, .int .u64 0])).run Tryd.prog W = .ok false W := fun W => by
        have := HQ.out W
        rw [decide_eq_false h0, wordV_zero] at this
        exact this
      clear h0 hr hc
      go_wp2
      go_ret
      exact ⟨rfl, HB.out⟩
end Go.Proofs.YtmjblnhnadffmaaDoor
