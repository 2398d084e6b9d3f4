/- ReceiptBytes of a receipt without logs, and shown. -/
import Derived.Test.YtmjblnhnadffmaaDoorAccD
namespace Go.Proofs.YtmjblnhnadffmaaDoor
open Go.RowKit Go.Shelf Go.Lib

def receiptItem0 : Item := .mk true [] [.mk false [1] [], .mk false [82, 8] [], .mk true [] []]
theorem receipt0_encode : encodeV receiptItem0 = .tuple #[.string ⟨#[197, 1, 130, 82, 8, 192]⟩, .int .i64 0] := by kernel_rfl
theorem receipt0_size : receiptItem0.size = 4 := by kernel_rfl
theorem receipt0_put : (put receiptItem0).length = 6 := by kernel_rfl
theorem number_lit (n : Nat) {l : List UInt8} (h : num n = l) (hn : n < 18446744073709551616) (w : World) : Calls Tryd.prog 36 #[.int .u64 n] w fun e w' => e = .returned (.string ⟨l.toArray⟩) ∧ Below w.heap.size w w' := by
  rw [← h]; exact number_any n w hn

theorem number21000 (w : World) : Calls Tryd.prog 36 #[.int .u64 21000] w fun e w' => e = .returned (.string ⟨#[82, 8]⟩) ∧ Below w.heap.size w w' := number_lit 21000 (l := [82, 8]) (by decide) (by decide) w

set_option maxRecDepth 100000 in
set_option maxHeartbeats 3200000 in
theorem receiptBytes0 (w : World) : Calls Tryd.prog 14 #[.agg #[.bool true, .int .u64 21000, .slice none 0 0]] w fun e w' => e = .returned (.tuple #[.string ⟨#[197, 1, 130, 82, 8, 192]⟩, .int .i64 0]) ∧ Below w.heap.size w w' := by
  have HN := Lib.hid number21000
  go_enter Tryd.func14, Tryd.ntmps14
  go_wp2
  go_loopw [4, 14] (fun v i wr => v = .slice none 0 0 ∧ i = .int .i64 0 ∧ wr = w.alloc (.cells #[.bool true, .int .u64 21000, .slice none 0 0] 38)) (fun _ _ _ => 0)
  case atStart => exact ⟨rfl, rfl, rfl⟩
  case round =>
    obtain ⟨rfl, rfl, rfl⟩ := hrel
    go_wp2_with fail
    refine (text_any _ _).mono ?_
    rintro e w1 ⟨rfl, hb1⟩
    have hz1 := hb1.size
    simp at hz1
    have c0 : w1.cell? ⟨w.heap.size, 0, none⟩ = some (.bool true) := (hb1.cell (p := ⟨w.heap.size, 0, none⟩) (by simp)).trans (by simp)
    have c1 : w1.cell? ⟨w.heap.size, 1, none⟩ = some (.int .u64 21000) := (hb1.cell (p := ⟨w.heap.size, 1, none⟩) (by simp)).trans (by simp)
    have hl0 : w.heap.size < w1.heap.size := by omega
    have HB1 := Lib.hid ((laid1 w _).trans (hb1.mono (by simp)))
    clear hb1
    go_wp2_with fail
    refine (text_any _ _).mono ?_
    rintro e w2 ⟨rfl, hb2⟩
    have hz2 := hb2.size
    simp at hz2
    have hX : Box3 w2 w1.heap.size (.bool false) (.string ⟨#[]⟩) (.slice none 0 0) := (Box3.new w1 _ _ _ _).kept (hb2.block _ (by simp))
    have c1' : w2.cell? ⟨w.heap.size, 1, none⟩ = some (.int .u64 21000) := (hb2.cell (p := ⟨w.heap.size, 1, none⟩) (by simp; omega)).trans ((World.cell?_alloc_past _ _ _ hl0).trans c1)
    have HX := Lib.hid hX
    obtain ⟨q0, q1, q2, q3⟩ := hX
    have HB2 := Lib.hid ((HB1.out.alloc HB1.out.size _).trans (hb2.mono (by simp; omega)))
    clear hb2 c0 c1
    go_wp2_with fail
    obtain ⟨w3, hw3⟩ : ∃ w3, (((w2.setCell ⟨w1.heap.size, 0, none⟩ (.bool false)).setCell ⟨w1.heap.size, 1, none⟩ (.string ⟨#[1]⟩)).setCell ⟨w1.heap.size, 2, none⟩ (.slice none 0 0)) = w3 := ⟨_, rfl⟩
    have hX3 : Box3 w3 w1.heap.size (.bool false) (.string ⟨#[1]⟩) (.slice none 0 0) := by rw [← hw3]; exact HX.out.set3 _ _ _
    have hc3 : w3.cell? ⟨w.heap.size, 1, none⟩ = some (.int .u64 21000) := by
      have ne : ∀ i, (⟨w1.heap.size, i, none⟩ : Addr) ≠ ⟨w.heap.size, 1, none⟩ := fun i e => by simp at e <;> omega
      rw [← hw3]
      exact (World.cell?_setCell_other _ _ _ _ (ne 2)).trans ((World.cell?_setCell_other _ _ _ _ (ne 1)).trans ((World.cell?_setCell_other _ _ _ _ (ne 0)).trans c1'))
    have hB3 : Below w.heap.size w w3 := by
      rw [← hw3]
      exact ((HB2.out.setCell (p := ⟨w1.heap.size, 0, none⟩) (show w.heap.size ≤ w1.heap.size by omega) _).setCell (p := ⟨w1.heap.size, 1, none⟩) (show w.heap.size ≤ w1.heap.size by omega) _).setCell (p := ⟨w1.heap.size, 2, none⟩) (show w.heap.size ≤ w1.heap.size by omega) _
    have HB3 := Lib.hid hB3
    rw [hw3]
    obtain ⟨g1, hg1⟩ : ∃ g1, w1.heap.size = g1 := ⟨_, rfl⟩
    rw [hg1] at hX3 ⊢
    have hlw : w.heap.size < w3.heap.size := World.block_lt_of_cell? w3 _ hc3
    have HS := Lib.hid (fun W' (hb : Below w3.heap.size w3 W') => (show W'.cell? ⟨g1, 0, none⟩ = some (.bool false) ∧ W'.cell? ⟨g1, 1, none⟩ = some (.string ⟨#[1]⟩) ∧ W'.cell? ⟨g1, 2, none⟩ = some (.slice none 0 0) ∧ W'.cell? ⟨w.heap.size, 1, none⟩ = some (.int .u64 21000) from
      ⟨(hb.cell (p := ⟨g1, 0, none⟩) hX3.lt).trans hX3.1, (hb.cell (p := ⟨g1, 1, none⟩) hX3.lt).trans hX3.2.1, (hb.cell (p := ⟨g1, 2, none⟩) hX3.lt).trans hX3.2.2.1, (hb.cell (p := ⟨w.heap.size, 1, none⟩) hlw).trans hc3⟩))
    clear hw3 c1' q0 q1 q2 q3 hX3 hc3 hB3 HX HB1 HB2 hg1 hz1 hz2 hl0
    have b3 : Below w3.heap.size w3 w3.drew := (Below.refl _ _).drew
    refine wp_region_held_drew (S := (fun w' => w'.cell? ⟨g1, 0, none⟩ = some (.bool false) ∧ w'.cell? ⟨g1, 1, none⟩ = some (.string ⟨#[1]⟩) ∧ w'.cell? ⟨g1, 2, none⟩ = some (.slice none 0 0) ∧ w'.cell? ⟨w.heap.size, 1, none⟩ = some (.int .u64 21000))) (by kernel_rfl) (HS.out _ (Below.refl _ _).drew) (fun hHeld => ?_)
    refine wpAnyH_take (i := 0) (v := .agg #[.bool false, .string ⟨#[1]⟩, .slice none 0 0]) rfl (by kernel_rfl) (by kernel_rfl) (by kernel_rfl) (fun _ _ _ h => h) (.inl ⟨by rfl, ?_⟩) (by assumption) ?_
    · intro w0 hSw
      obtain ⟨z0, z1, z2, z3⟩ := hSw
      go_simp
    simp only [Act.put, List.getElem_toArray, List.getElem_cons_zero, List.setIfInBounds_toArray, List.set_cons_zero, List.set_cons_succ]
    refine wpAnyH_take (i := 1) (v := .pointer (some ⟨w.heap.size, 1, none⟩)) rfl (by kernel_rfl) (by kernel_rfl) (by kernel_rfl) (fun _ _ _ h => h) (.inl ⟨by rfl, ?_⟩) (by assumption) ?_
    · intro w0 hSw
      go_simp
    simp only [Act.put, List.getElem_toArray, List.getElem_cons_zero, List.getElem_cons_succ, List.setIfInBounds_toArray, List.set_cons_zero, List.set_cons_succ]
    refine wpAnyH_take (i := 2) (v := .int .u64 21000) rfl (by kernel_rfl) (by kernel_rfl) (by kernel_rfl) (fun _ _ _ h => h) (.inl ⟨by rfl, ?_⟩) (by assumption) ?_
    · intro w0 hSw
      obtain ⟨z0, z1, z2, z3⟩ := hSw
      go_simp
    simp only [Act.put, List.getElem_toArray, List.getElem_cons_zero, List.getElem_cons_succ, List.setIfInBounds_toArray, List.set_cons_zero, List.set_cons_succ]
    refine wpAnyH_take (i := 5) (v := .slice none 0 0) rfl (by kernel_rfl) (by kernel_rfl) (by kernel_rfl) (fun _ _ _ h => h) (.inl ⟨by rfl, ?_⟩) (by assumption) ?_
    · intro w0 hSw
      go_simp
    simp only [Act.put, List.getElem_toArray, List.getElem_cons_zero, List.getElem_cons_succ, List.setIfInBounds_toArray, List.set_cons_zero, List.set_cons_succ]
    refine wpAnyH_ready (rs := [3]) (by kernel_rfl) (by simp) ?_
    refine AllReadyH.cons rfl (fun K hK => ?_) AllReadyH.nil
    go_simp
    go_at_call 36
    refine (HN.out _).mono ?_
    rintro e w4 ⟨rfl, hb4⟩
    have b4 := b3.trans (hb4.mono b3.size)
    refine hK.out _ _ (HS.out _ b4) (fun hHeld => ?_)
    clear hK K
    try simp only [Act.put, List.getElem_toArray, List.getElem_cons_zero, List.getElem_cons_succ, List.setIfInBounds_toArray, List.set_cons_zero, List.set_cons_succ]
    refine wpAnyH_ready (rs := [4]) (by kernel_rfl) (by simp) ?_
    refine AllReadyH.cons rfl (fun K hK => ?_) AllReadyH.nil
    go_simp
    go_at_call 30
    refine (text_any _ _).mono ?_
    rintro e w5 ⟨rfl, hb5⟩
    have b5 := b4.trans (hb5.mono b4.size)
    refine hK.out _ _ (HS.out _ b5) (fun hHeld => ?_)
    clear hK K
    try simp only [Act.put, List.getElem_toArray, List.getElem_cons_zero, List.getElem_cons_succ, List.setIfInBounds_toArray, List.set_cons_zero, List.set_cons_succ]
    refine wpAnyH_ready (rs := [6]) (by kernel_rfl) (by simp) ?_
    refine AllReadyH.cons rfl (fun K hK => ?_) AllReadyH.nil
    go_simp
    go_at_call 35
    refine (list_any _ _ _ _).mono ?_
    rintro e w6 ⟨rfl, hb6⟩
    have b6 := b5.trans (hb6.mono b5.size)
    refine hK.out _ _ (HS.out _ b6) (fun hHeld => ?_)
    clear hK K
    try simp only [Act.put, List.getElem_toArray, List.getElem_cons_zero, List.getElem_cons_succ, List.setIfInBounds_toArray, List.set_cons_zero, List.set_cons_succ]
    refine wpAnyH_ready (rs := [7]) (by kernel_rfl) (by simp) ?_
    refine AllReadyH.cons rfl (fun K hK => ?_) AllReadyH.nil
    go_simp
    have b7 := b6.alloc b6.size (.cells #[.bool false, .string ⟨#[1]⟩, .slice none 0 0, .bool false, .string ⟨#[82, 8]⟩, .slice none 0 0, .bool true, .string ⟨#[]⟩, .slice none 0 0] 51)
    refine hK.out _ _ (HS.out _ b7) (fun hHeld => ?_)
    clear hK K
    try simp only [Act.put, List.getElem_toArray, List.getElem_cons_zero, List.getElem_cons_succ, List.setIfInBounds_toArray, List.set_cons_zero, List.set_cons_succ]
    refine wpAnyH_ready (rs := [8]) (by kernel_rfl) (by simp) ?_
    refine AllReadyH.cons rfl (fun K hK => ?_) AllReadyH.nil
    go_simp
    go_at_call 35
    refine (list_any _ _ _ _).mono ?_
    rintro e w8 ⟨rfl, hb8⟩
    have b8 := b7.trans (hb8.mono b7.size)
    refine hK.out _ _ (HS.out _ b8) (fun hHeld => ?_)
    clear hK K
    try simp only [Act.put, List.getElem_toArray, List.getElem_cons_zero, List.getElem_cons_succ, List.setIfInBounds_toArray, List.set_cons_zero, List.set_cons_succ]
    have hrd : Reads w8 w8.heap.size (.slice (some ⟨w6.heap.size, 0, none⟩) 3 3) receiptItem0.list := by
      have h0 := fun j u hu => (hb8.cell (p := ⟨w6.heap.size, j, none⟩) (by simp)).trans (cells_at w6 [.bool false, .string ⟨#[1]⟩, .slice none 0 0, .bool false, .string ⟨#[82, 8]⟩, .slice none 0 0, .bool true, .string ⟨#[]⟩, .slice none 0 0] 51 j u hu)
      refine Reads.mk (xs := receiptItem0.list) (cap := 3) (by have := hb8.size; simp at this; omega) (fun i x hx => ?_)
      match i, hx with
      | 0, hx => cases hx; exact ⟨h0 0 _ rfl, h0 1 _ rfl, _, h0 2 _ rfl, Reads.nil _ _⟩
      | 1, hx => cases hx; exact ⟨h0 3 _ rfl, h0 4 _ rfl, _, h0 5 _ rfl, Reads.nil _ _⟩
      | 2, hx => cases hx; exact ⟨h0 6 _ rfl, h0 7 _ rfl, _, h0 8 _ rfl, Reads.nil _ _⟩
    have hE := Lib.hid (encode_any receiptItem0 _ _ (by rw [receipt0_size]; omega) (by rw [receipt0_put]; omega) hrd)
    rw [receipt0_encode] at hE
    clear hrd
    refine wpAnyH_ready (rs := [9]) (by kernel_rfl) (by simp) ?_
    refine AllReadyH.cons rfl (fun K hK => ?_) AllReadyH.nil
    go_simp
    go_at_call 29
    refine (hE.out).mono ?_
    rintro e w9 ⟨rfl, hb9⟩
    have b9 := b8.trans (hb9.mono b8.size)
    refine hK.out _ _ (HS.out _ b9) (fun hHeld => ?_)
    clear hK K
    try simp only [Act.put, List.getElem_toArray, List.getElem_cons_zero, List.getElem_cons_succ, List.setIfInBounds_toArray, List.set_cons_zero, List.set_cons_succ]
    refine wpAnyH_take (i := 10) (v := .string ⟨#[197, 1, 130, 82, 8, 192]⟩) rfl (by kernel_rfl) (by kernel_rfl) (by kernel_rfl) (fun _ _ _ h => h) (.inl ⟨by rfl, ?_⟩) (by assumption) ?_
    · intro w0 hSw
      go_simp
    simp only [Act.put, List.getElem_toArray, List.getElem_cons_zero, List.getElem_cons_succ, List.setIfInBounds_toArray, List.set_cons_zero, List.set_cons_succ]
    refine wpAnyH_take (i := 11) (v := .int .i64 0) rfl (by kernel_rfl) (by kernel_rfl) (by kernel_rfl) (fun _ _ _ h => h) (.inl ⟨by rfl, ?_⟩) (by assumption) ?_
    · intro w0 hSw
      go_simp
    simp only [Act.put, List.getElem_toArray, List.getElem_cons_zero, List.getElem_cons_succ, List.setIfInBounds_toArray, List.set_cons_zero, List.set_cons_succ]
    refine wpAnyH_take (i := 12) (v := .string ⟨#[197, 1, 130, 82, 8, 192]⟩) rfl (by kernel_rfl) (by kernel_rfl) (by kernel_rfl) (fun _ _ _ h => h) (.inl ⟨by rfl, ?_⟩) (by assumption) ?_
    · intro w0 hSw
      go_simp
    simp only [Act.put, List.getElem_toArray, List.getElem_cons_zero, List.getElem_cons_succ, List.setIfInBounds_toArray, List.set_cons_zero, List.set_cons_succ]
    refine wpAnyH_take (i := 13) (v := .int .i64 0) rfl (by kernel_rfl) (by kernel_rfl) (by kernel_rfl) (fun _ _ _ h => h) (.inl ⟨by rfl, ?_⟩) (by assumption) ?_
    · intro w0 hSw
      go_simp
    simp only [Act.put, List.getElem_toArray, List.getElem_cons_zero, List.getElem_cons_succ, List.setIfInBounds_toArray, List.set_cons_zero, List.set_cons_succ]
    refine wpAnyH_done (by kernel_rfl) ?_ 0
    go_wp2
    go_ret2
    exact ⟨rfl, HB3.out.trans (b9.mono HB3.out.size)⟩

set_option maxRecDepth 100000 in
set_option maxHeartbeats 1600000 in
theorem shown16_any (w : World) : Calls Tryd.prog 8 #[] w fun e w' => e = .returned (.bool true) ∧ Below w.heap.size w w' := by
  have H2 : ∀ W, Calls Tryd.prog 11 #[.agg #[.int .u64 255, .int .u64 0, .int .u64 0, .int .u64 0]] W fun e w' => e = .returned (.string ⟨#[129, 255]⟩) ∧ Below W.heap.size W w' := by
    intro W
    have := slot_any 255 W
    rw [show slotL 255 = [129, 255] by kernel_rfl] at this
    exact this
  go_enter Tryd.func8, Tryd.ntmps8
  go_wp2_with fail
  refine (receiptBytes0 _).mono ?_
  rintro e w1 ⟨rfl, hb1⟩
  go_wp2_with fail
  refine (H2 _).mono ?_
  rintro e w2 ⟨rfl, hb2⟩
  go_wp2
  go_ret
  exact ⟨rfl, hb1.trans (hb2.mono hb1.size)⟩
end Go.Proofs.YtmjblnhnadffmaaDoor
