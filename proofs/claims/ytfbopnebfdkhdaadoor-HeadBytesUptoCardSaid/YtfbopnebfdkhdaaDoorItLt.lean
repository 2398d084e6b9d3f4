/- Contract of pharosref13.light: a Light's item. -/
import Derived.Test.YtfbopnebfdkhdaaDoorItLs
namespace Go.Proofs.YtfbopnebfdkhdaaDoor
open Go.RowKit Go.Shelf Go.Lib
attribute [local go_sem] Oper.semAt_some

set_option maxRecDepth 100000 in
set_option maxHeartbeats 40000000 in
theorem ritLight_any (n m : Nat) (a b c d e : ByteArray) (k : Nat) (v : Value) (br : List ByteArray) (w : World) (hn : n < 18446744073709551616) (hm : m < 18446744073709551616) (hk : k < 18446744073709551616) (hv : Strs w v br) (hN : br.length ≤ 1048576) :
    Calls Tryd.prog 68 #[.agg #[.int .u64 n, .int .u64 m, .string a, .string b, .string c, .string d, .string e, .int .u64 k, v]] w (GivesL w (lightItems n m a b c d e k br)) := by
  have HV := Lib.hid hv
  obtain ⟨p, cp, rfl, -⟩ := hv
  have HVV := HV
  obtain ⟨l, hl⟩ : ∃ l, br.length = l := ⟨_, rfl⟩
  rw [hl] at HVV ⊢
  have HN := Lib.hid (fun W => ritNumber_any n W hn)
  have HM := Lib.hid (fun W => ritNumber_any m W hm)
  clear hl hn hm HV
  go_enter Tryd.func68, Tryd.ntmps68
  go_wp2_with fail
  rename_i hkk
  refine stashW (fun w4 hw4 => ?_)
  have HB4 := Lib.hid (show Below w.heap.size w w4 from by
    rw [hw4]
    repeat' (first | exact Below.refl _ _ | refine Below.drew ?_ | refine Below.setCell ?_ (show w.heap.size ≤ _ from by simp) _ | refine Below.alloc ?_ (by simp <;> omega) _))
  have hz4 : w.heap.size + 4 ≤ w4.heap.size := by rw [hw4]; simp
  have q0 : w4.cell? ⟨w.heap.size + 2, 0, none⟩ = some (.int .u64 n) := by rw [hw4]; simp [go_sem]
  have q1 : w4.cell? ⟨w.heap.size + 2, 1, none⟩ = some (.int .u64 m) := by rw [hw4]; simp [go_sem]
  have q2 : w4.cell? ⟨w.heap.size + 2, 2, none⟩ = some (.string a) := by rw [hw4]; simp [go_sem]
  have q3 : w4.cell? ⟨w.heap.size + 2, 3, none⟩ = some (.string b) := by rw [hw4]; simp [go_sem]
  have q4 : w4.cell? ⟨w.heap.size + 2, 4, none⟩ = some (.string c) := by rw [hw4]; simp [go_sem]
  have q5 : w4.cell? ⟨w.heap.size + 3, 0, none⟩ = some (.string d) := by rw [hw4]; simp [go_sem]
  have q6 : w4.cell? ⟨w.heap.size + 3, 1, none⟩ = some (.string e) := by rw [hw4]; simp [go_sem]
  have q7 : w4.cell? ⟨w.heap.size + 3, 2, none⟩ = some (.int .u64 k) := by rw [hw4]; simp [go_sem]
  have q8 : w4.cell? ⟨w.heap.size, 8, none⟩ = some (.slice p l cp) := by rw [hw4]; simp [go_sem]
  have HZ := Lib.hid (show (w4.cell? ⟨w.heap.size + 1, 0, none⟩ = some (.bool false) ∧ w4.cell? ⟨w.heap.size + 1, 1, none⟩ = some (.string ⟨#[]⟩) ∧ w4.cell? ⟨w.heap.size + 1, 2, none⟩ = some (.slice none 0 0)) ∧ (∀ j, w4.frozen? ⟨w.heap.size + 1, j, none⟩ = false) from by
    rw [hw4]
    refine ⟨⟨by simp [go_sem], by simp [go_sem], by simp [go_sem]⟩, fun j => by simp [go_sem]⟩)
  have HS := Lib.hid (fun W (hb : Below w4.heap.size w4 W) => (show W.cell? ⟨w.heap.size + 2, 0, none⟩ = some (.int .u64 n) ∧ W.cell? ⟨w.heap.size + 2, 1, none⟩ = some (.int .u64 m) ∧ W.cell? ⟨w.heap.size + 2, 2, none⟩ = some (.string a) ∧ W.cell? ⟨w.heap.size + 2, 3, none⟩ = some (.string b) ∧ W.cell? ⟨w.heap.size + 2, 4, none⟩ = some (.string c) ∧ W.cell? ⟨w.heap.size + 3, 0, none⟩ = some (.string d) ∧ W.cell? ⟨w.heap.size + 3, 1, none⟩ = some (.string e) ∧ W.cell? ⟨w.heap.size + 3, 2, none⟩ = some (.int .u64 k) ∧ W.cell? ⟨w.heap.size, 8, none⟩ = some (.slice p l cp) from ⟨(hb.cell (p := ⟨w.heap.size + 2, 0, none⟩) (by dsimp only; omega)).trans q0, (hb.cell (p := ⟨w.heap.size + 2, 1, none⟩) (by dsimp only; omega)).trans q1, (hb.cell (p := ⟨w.heap.size + 2, 2, none⟩) (by dsimp only; omega)).trans q2, (hb.cell (p := ⟨w.heap.size + 2, 3, none⟩) (by dsimp only; omega)).trans q3, (hb.cell (p := ⟨w.heap.size + 2, 4, none⟩) (by dsimp only; omega)).trans q4, (hb.cell (p := ⟨w.heap.size + 3, 0, none⟩) (by dsimp only; omega)).trans q5, (hb.cell (p := ⟨w.heap.size + 3, 1, none⟩) (by dsimp only; omega)).trans q6, (hb.cell (p := ⟨w.heap.size + 3, 2, none⟩) (by dsimp only; omega)).trans q7, (hb.cell (p := ⟨w.heap.size, 8, none⟩) (by dsimp only; omega)).trans q8⟩))
  clear hw4 q0 q1 q2 q3 q4 q5 q6 q7 q8
  have b4 : Below w4.heap.size w4 w4.drew := (Below.refl _ _).drew
  refine wp_region_held_drew (S := (fun W => W.cell? ⟨w.heap.size + 2, 0, none⟩ = some (.int .u64 n) ∧ W.cell? ⟨w.heap.size + 2, 1, none⟩ = some (.int .u64 m) ∧ W.cell? ⟨w.heap.size + 2, 2, none⟩ = some (.string a) ∧ W.cell? ⟨w.heap.size + 2, 3, none⟩ = some (.string b) ∧ W.cell? ⟨w.heap.size + 2, 4, none⟩ = some (.string c) ∧ W.cell? ⟨w.heap.size + 3, 0, none⟩ = some (.string d) ∧ W.cell? ⟨w.heap.size + 3, 1, none⟩ = some (.string e) ∧ W.cell? ⟨w.heap.size + 3, 2, none⟩ = some (.int .u64 k) ∧ W.cell? ⟨w.heap.size, 8, none⟩ = some (.slice p l cp))) (by kernel_rfl) (HS.out _ b4) (fun hHeld => ?_)
  refine wpAnyH_take (i := 0) (v := ?_) rfl (by kernel_rfl) (by kernel_rfl) (by kernel_rfl) (fun _ _ _ h => h) (.inl ⟨by rfl, ?_⟩) (by assumption) ?_
  rotate_left 1
  · intro w0 hSw
    go_simp <;> with_reducible rfl
  try simp only [Act.put, List.getElem_toArray, List.getElem_cons_zero, List.setIfInBounds_toArray, List.set_cons_zero, List.set_cons_succ]
  refine wpAnyH_take (i := 1) (v := ?_) rfl (by kernel_rfl) (by kernel_rfl) (by kernel_rfl) (fun _ _ _ h => h) (.inl ⟨by rfl, ?_⟩) (by assumption) ?_
  rotate_left 1
  · intro w0 hSw
    obtain ⟨z0, z1, z2, z3, z4, z5, z6, z7, z8⟩ := hSw
    go_simp <;> with_reducible rfl
  try simp only [Act.put, List.getElem_toArray, List.getElem_cons_zero, List.getElem_cons_succ, List.setIfInBounds_toArray, List.set_cons_zero, List.set_cons_succ]
  refine wpAnyH_take (i := 3) (v := ?_) rfl (by kernel_rfl) (by kernel_rfl) (by kernel_rfl) (fun _ _ _ h => h) (.inl ⟨by rfl, ?_⟩) (by assumption) ?_
  rotate_left 1
  · intro w0 hSw
    go_simp <;> with_reducible rfl
  try simp only [Act.put, List.getElem_toArray, List.getElem_cons_zero, List.getElem_cons_succ, List.setIfInBounds_toArray, List.set_cons_zero, List.set_cons_succ]
  refine wpAnyH_take (i := 4) (v := ?_) rfl (by kernel_rfl) (by kernel_rfl) (by kernel_rfl) (fun _ _ _ h => h) (.inl ⟨by rfl, ?_⟩) (by assumption) ?_
  rotate_left 1
  · intro w0 hSw
    obtain ⟨z0, z1, z2, z3, z4, z5, z6, z7, z8⟩ := hSw
    go_simp <;> with_reducible rfl
  try simp only [Act.put, List.getElem_toArray, List.getElem_cons_zero, List.getElem_cons_succ, List.setIfInBounds_toArray, List.set_cons_zero, List.set_cons_succ]
  refine wpAnyH_take (i := 6) (v := ?_) rfl (by kernel_rfl) (by kernel_rfl) (by kernel_rfl) (fun _ _ _ h => h) (.inl ⟨by rfl, ?_⟩) (by assumption) ?_
  rotate_left 1
  · intro w0 hSw
    go_simp <;> with_reducible rfl
  try simp only [Act.put, List.getElem_toArray, List.getElem_cons_zero, List.getElem_cons_succ, List.setIfInBounds_toArray, List.set_cons_zero, List.set_cons_succ]
  refine wpAnyH_take (i := 7) (v := ?_) rfl (by kernel_rfl) (by kernel_rfl) (by kernel_rfl) (fun _ _ _ h => h) (.inl ⟨by rfl, ?_⟩) (by assumption) ?_
  rotate_left 1
  · intro w0 hSw
    obtain ⟨z0, z1, z2, z3, z4, z5, z6, z7, z8⟩ := hSw
    go_simp <;> with_reducible rfl
  try simp only [Act.put, List.getElem_toArray, List.getElem_cons_zero, List.getElem_cons_succ, List.setIfInBounds_toArray, List.set_cons_zero, List.set_cons_succ]
  refine wpAnyH_take (i := 9) (v := ?_) rfl (by kernel_rfl) (by kernel_rfl) (by kernel_rfl) (fun _ _ _ h => h) (.inl ⟨by rfl, ?_⟩) (by assumption) ?_
  rotate_left 1
  · intro w0 hSw
    go_simp <;> with_reducible rfl
  try simp only [Act.put, List.getElem_toArray, List.getElem_cons_zero, List.getElem_cons_succ, List.setIfInBounds_toArray, List.set_cons_zero, List.set_cons_succ]
  refine wpAnyH_take (i := 10) (v := ?_) rfl (by kernel_rfl) (by kernel_rfl) (by kernel_rfl) (fun _ _ _ h => h) (.inl ⟨by rfl, ?_⟩) (by assumption) ?_
  rotate_left 1
  · intro w0 hSw
    obtain ⟨z0, z1, z2, z3, z4, z5, z6, z7, z8⟩ := hSw
    go_simp <;> with_reducible rfl
  try simp only [Act.put, List.getElem_toArray, List.getElem_cons_zero, List.getElem_cons_succ, List.setIfInBounds_toArray, List.set_cons_zero, List.set_cons_succ]
  refine wpAnyH_take (i := 12) (v := ?_) rfl (by kernel_rfl) (by kernel_rfl) (by kernel_rfl) (fun _ _ _ h => h) (.inl ⟨by rfl, ?_⟩) (by assumption) ?_
  rotate_left 1
  · intro w0 hSw
    go_simp <;> with_reducible rfl
  try simp only [Act.put, List.getElem_toArray, List.getElem_cons_zero, List.getElem_cons_succ, List.setIfInBounds_toArray, List.set_cons_zero, List.set_cons_succ]
  refine wpAnyH_take (i := 13) (v := ?_) rfl (by kernel_rfl) (by kernel_rfl) (by kernel_rfl) (fun _ _ _ h => h) (.inl ⟨by rfl, ?_⟩) (by assumption) ?_
  rotate_left 1
  · intro w0 hSw
    obtain ⟨z0, z1, z2, z3, z4, z5, z6, z7, z8⟩ := hSw
    go_simp <;> with_reducible rfl
  try simp only [Act.put, List.getElem_toArray, List.getElem_cons_zero, List.getElem_cons_succ, List.setIfInBounds_toArray, List.set_cons_zero, List.set_cons_succ]
  refine wpAnyH_ready (rs := [2, 17]) (by kernel_rfl) (by simp) ?_
  refine AllReadyH.cons rfl (fun K hK => ?_) (AllReadyH.cons rfl (fun K hK => ?_) AllReadyH.nil)
  · go_simp
    go_at_call 73
    refine (HN.out _).mono ?_
    rintro z w5 ⟨rfl, hb5⟩
    have b5 : Below w4.heap.size w4 w5 := b4.trans (hb5.mono b4.size)
    clear hb5
    refine hK.out _ _ (HS.out _ b5) (fun hHeld => ?_)
    clear hK K
    try simp only [Act.put, List.getElem_toArray, List.getElem_cons_zero, List.getElem_cons_succ, List.setIfInBounds_toArray, List.set_cons_zero, List.set_cons_succ]
    refine wpAnyH_ready (rs := [5, 17]) (by kernel_rfl) (by simp) ?_
    refine AllReadyH.cons rfl (fun K hK => ?_) (AllReadyH.cons rfl (fun K hK => ?_) AllReadyH.nil)
    · go_simp
      go_at_call 73
      refine (HM.out _).mono ?_
      rintro z w6 ⟨rfl, hb6⟩
      have b6 : Below w4.heap.size w4 w6 := b5.trans (hb6.mono b5.size)
      clear hb6
      refine hK.out _ _ (HS.out _ b6) (fun hHeld => ?_)
      clear hK K
      try simp only [Act.put, List.getElem_toArray, List.getElem_cons_zero, List.getElem_cons_succ, List.setIfInBounds_toArray, List.set_cons_zero, List.set_cons_succ]
      refine wpAnyH_ready (rs := [8, 17]) (by kernel_rfl) (by simp) ?_
      refine AllReadyH.cons rfl (fun K hK => ?_) (AllReadyH.cons rfl (fun K hK => ?_) AllReadyH.nil)
      · go_simp
        go_at_call 74
        refine (rtext_any a _).mono ?_
        rintro z w7 ⟨rfl, hb7⟩
        have b7 : Below w4.heap.size w4 w7 := b6.trans (hb7.mono b6.size)
        clear hb7
        refine hK.out _ _ (HS.out _ b7) (fun hHeld => ?_)
        clear hK K
        try simp only [Act.put, List.getElem_toArray, List.getElem_cons_zero, List.getElem_cons_succ, List.setIfInBounds_toArray, List.set_cons_zero, List.set_cons_succ]
        refine wpAnyH_ready (rs := [11, 17]) (by kernel_rfl) (by simp) ?_
        refine AllReadyH.cons rfl (fun K hK => ?_) (AllReadyH.cons rfl (fun K hK => ?_) AllReadyH.nil)
        · go_simp
          go_at_call 74
          refine (rtext_any b _).mono ?_
          rintro z w8 ⟨rfl, hb8⟩
          have b8 : Below w4.heap.size w4 w8 := b7.trans (hb8.mono b7.size)
          clear hb8
          refine hK.out _ _ (HS.out _ b8) (fun hHeld => ?_)
          clear hK K
          try simp only [Act.put, List.getElem_toArray, List.getElem_cons_zero, List.getElem_cons_succ, List.setIfInBounds_toArray, List.set_cons_zero, List.set_cons_succ]
          refine wpAnyH_ready (rs := [14, 17]) (by kernel_rfl) (by simp) ?_
          refine AllReadyH.cons rfl (fun K hK => ?_) (AllReadyH.cons rfl (fun K hK => ?_) AllReadyH.nil)
          · go_simp
            go_at_call 74
            refine (rtext_any c _).mono ?_
            rintro z w9 ⟨rfl, hb9⟩
            have b9 : Below w4.heap.size w4 w9 := b8.trans (hb9.mono b8.size)
            clear hb9
            refine hK.out _ _ (HS.out _ b9) (fun hHeld => ?_)
            clear hK K
            try simp only [Act.put, List.getElem_toArray, List.getElem_cons_zero, List.getElem_cons_succ, List.setIfInBounds_toArray, List.set_cons_zero, List.set_cons_succ]
            refine wpAnyH_ready (rs := [15, 17]) (by kernel_rfl) (by simp) ?_
            refine AllReadyH.cons rfl (fun K hK => ?_) (AllReadyH.cons rfl (fun K hK => ?_) AllReadyH.nil)
            · go_simp
              have hal : ∃ W, w9.alloc (.cells #[.bool false, .string ⟨(num n).toArray⟩, .slice none 0 0, .bool false, .string ⟨(num m).toArray⟩, .slice none 0 0, .bool false, .string a, .slice none 0 0, .bool false, .string b, .slice none 0 0, .bool false, .string c, .slice none 0 0] 80) = W := ⟨_, rfl⟩
              obtain ⟨w10, hal⟩ := hal
              have hb10 : Below w9.heap.size w9 w10 := by rw [← hal]; exact (Below.refl _ _).alloc (Nat.le_refl _) _
              have b10 : Below w4.heap.size w4 w10 := b9.trans (hb10.mono b9.size)
              have HR_10 := Lib.hid (show RIn w10 w4.heap.size (.slice (some ⟨w9.heap.size, 0, none⟩) 5 5) [itN n, itN m, itT a, itT b, itT c] from by
                rw [← hal]
                refine reads_new w9 (w4.heap.size) 5 [(itN n, .slice none 0 0), (itN m, .slice none 0 0), (itT a, .slice none 0 0), (itT b, .slice none 0 0), (itT c, .slice none 0 0)] rfl b9.size (fun q hq => ?_)
                simp only [List.mem_cons, List.not_mem_nil, or_false] at hq
                rcases hq with rfl | rfl | rfl | rfl | rfl
                · exact RIn.nil _ _
                · exact RIn.nil _ _
                · exact RIn.nil _ _
                · exact RIn.nil _ _
                · exact RIn.nil _ _)
              rw [hal]
              clear hal hb10
              refine hK.out _ _ (HS.out _ b10) (fun hHeld => ?_)
              clear hK K
              try simp only [Act.put, List.getElem_toArray, List.getElem_cons_zero, List.getElem_cons_succ, List.setIfInBounds_toArray, List.set_cons_zero, List.set_cons_succ]
              refine wpAnyH_ready (rs := [16, 17]) (by kernel_rfl) (by simp) ?_
              refine AllReadyH.cons rfl (fun K hK => ?_) (AllReadyH.cons rfl (fun K hK => ?_) AllReadyH.nil)
              · go_simp
                go_at_call 67
                refine (rlist_any _ _ _ _).mono ?_
                rintro z w11 ⟨rfl, hb11⟩
                have b11 : Below w4.heap.size w4 w11 := b10.trans (hb11.mono b10.size)
                have HR_11 := Lib.hid (HR_10.out.below hb11)
                clear HR_10
                clear hb11
                refine hK.out _ _ (HS.out _ b11) (fun hHeld => ?_)
                clear hK K
                try simp only [Act.put, List.getElem_toArray, List.getElem_cons_zero, List.getElem_cons_succ, List.setIfInBounds_toArray, List.set_cons_zero, List.set_cons_succ]
                refine wpAnyH_ready (rs := [17]) (by kernel_rfl) (by simp) ?_
                refine AllReadyH.cons rfl (fun K hK => ?_) AllReadyH.nil
                go_simp
                have hal : ∃ W, w11.alloc (.cells #[.bool false, .string ⟨#[]⟩, .slice none 0 0] 80) = W := ⟨_, rfl⟩
                obtain ⟨w12, hal⟩ := hal
                have hba : Below w11.heap.size w11 w12 := by rw [← hal]; exact (Below.refl _ _).alloc (Nat.le_refl _) _
                have b12 : Below w4.heap.size w4 w12 := b11.trans (hba.mono b11.size)
                have c12 : Below w12.heap.size w12 w12 := Below.refl _ _
                have hzi : w4.heap.size ≤ w11.heap.size := b11.size
                have hlt : w11.heap.size < w12.heap.size := by rw [← hal]; simp
                have HZZ := Lib.hid (fun W (hb : Below w12.heap.size w12 W) => zero_cells (w := w11) (W := W) (by rw [hal]; exact hb))
                rw [hal]
                clear hal
                refine hK.out _ _ (HS.out _ b12) (fun hHeld => ?_)
                clear hK K
                try simp only [Act.put, List.getElem_toArray, List.getElem_cons_zero, List.getElem_cons_succ, List.setIfInBounds_toArray, List.set_cons_zero, List.set_cons_succ]
                obtain ⟨p0, p1, p2, f0, f1, f2⟩ := HZZ.out _ c12
                refine wpAnyH_ready (rs := [18]) (by kernel_rfl) (by simp) ?_
                refine AllReadyH.cons rfl (fun K hK => ?_) AllReadyH.nil
                go_simp
                refine hK.out _ _ (⟨three_other hHeld.1 (by omega) _ _ _, three_other hHeld.2.1 (by omega) _ _ _, three_other hHeld.2.2.1 (by omega) _ _ _, three_other hHeld.2.2.2.1 (by omega) _ _ _, three_other hHeld.2.2.2.2.1 (by omega) _ _ _, three_other hHeld.2.2.2.2.2.1 (by omega) _ _ _, three_other hHeld.2.2.2.2.2.2.1 (by omega) _ _ _, three_other hHeld.2.2.2.2.2.2.2.1 (by omega) _ _ _, three_other hHeld.2.2.2.2.2.2.2.2 (by omega) _ _ _⟩) (fun hHeld => ?_)
                clear hK K
                try simp only [Act.put, List.getElem_toArray, List.getElem_cons_zero, List.getElem_cons_succ, List.setIfInBounds_toArray, List.set_cons_zero, List.set_cons_succ]
                refine wpAnyH_done (by kernel_rfl) ?_ 0
                have hbn : Below w11.heap.size w11 w12 := hba.trans (c12.mono hba.size)
                have hbw : Below w.heap.size w w12 := HB4.out.trans (b12.mono HB4.out.size)
                have hsz : w11.heap.size < w12.heap.size := Nat.lt_of_lt_of_le hlt c12.size
                refine hkk _ _ ?_
                refine rlight_r4 n m a b c d e k p l cp br w hN HVV.out hk (w11.heap.size) (.slice (some ⟨w9.heap.size, 0, none⟩) 5 5) ⟨_, _, _, rfl⟩ _ _ _ _ _ _ _ _ _ _ _ _ _ _ _ _ _ _ _ _ _ _ _ _ _ _ _ _ _ _ _ _ _ _ _ _ _ _ _ _ _ (Lib.hid (((hbw.setCell (p := ⟨w11.heap.size, 0, none⟩) (show w.heap.size ≤ w11.heap.size by omega) _).setCell (p := ⟨w11.heap.size, 1, none⟩) (show w.heap.size ≤ w11.heap.size by omega) _).setCell (p := ⟨w11.heap.size, 2, none⟩) (show w.heap.size ≤ w11.heap.size by omega) _)) ⟨by omega, by rw [World.size_setCell, World.size_setCell, World.size_setCell]; omega⟩ (by rw [World.size_setCell, World.size_setCell, World.size_setCell]; omega) ⟨three_same p0 p1 p2 _ _ _, hHeld.2.2.2.2.2.2.2.2, hHeld.2.2.2.2.2.1, hHeld.2.2.2.2.2.2.1, hHeld.2.2.2.2.2.2.2.1⟩ (Lib.hid (zero_three HZ.out b12 (by omega) (by omega) _ _ _)) (Lib.hid ?_)
                exact (keep_before HR_11.out hbn _ _ _).mono (by omega)
              · go_simp
                have hal : ∃ W, w10.alloc (.cells #[.bool false, .string ⟨#[]⟩, .slice none 0 0] 80) = W := ⟨_, rfl⟩
                obtain ⟨w11, hal⟩ := hal
                have hba : Below w10.heap.size w10 w11 := by rw [← hal]; exact (Below.refl _ _).alloc (Nat.le_refl _) _
                have b11 : Below w4.heap.size w4 w11 := b10.trans (hba.mono b10.size)
                have c11 : Below w11.heap.size w11 w11 := Below.refl _ _
                have hzi : w4.heap.size ≤ w10.heap.size := b10.size
                have hlt : w10.heap.size < w11.heap.size := by rw [← hal]; simp
                have HZZ := Lib.hid (fun W (hb : Below w11.heap.size w11 W) => zero_cells (w := w10) (W := W) (by rw [hal]; exact hb))
                rw [hal]
                clear hal
                refine hK.out _ _ (HS.out _ b11) (fun hHeld => ?_)
                clear hK K
                try simp only [Act.put, List.getElem_toArray, List.getElem_cons_zero, List.getElem_cons_succ, List.setIfInBounds_toArray, List.set_cons_zero, List.set_cons_succ]
                refine wpAnyH_ready (rs := [16]) (by kernel_rfl) (by simp) ?_
                refine AllReadyH.cons rfl (fun K hK => ?_) AllReadyH.nil
                go_simp
                go_at_call 67
                refine (rlist_any _ _ _ _).mono ?_
                rintro z w12 ⟨rfl, hb12⟩
                have b12 : Below w4.heap.size w4 w12 := b11.trans (hb12.mono b11.size)
                have c12 : Below w11.heap.size w11 w12 := c11.trans (hb12.mono c11.size)
                clear hb12
                refine hK.out _ _ (HS.out _ b12) (fun hHeld => ?_)
                clear hK K
                try simp only [Act.put, List.getElem_toArray, List.getElem_cons_zero, List.getElem_cons_succ, List.setIfInBounds_toArray, List.set_cons_zero, List.set_cons_succ]
                obtain ⟨p0, p1, p2, f0, f1, f2⟩ := HZZ.out _ c12
                refine wpAnyH_ready (rs := [18]) (by kernel_rfl) (by simp) ?_
                refine AllReadyH.cons rfl (fun K hK => ?_) AllReadyH.nil
                go_simp
                refine hK.out _ _ (⟨three_other hHeld.1 (by omega) _ _ _, three_other hHeld.2.1 (by omega) _ _ _, three_other hHeld.2.2.1 (by omega) _ _ _, three_other hHeld.2.2.2.1 (by omega) _ _ _, three_other hHeld.2.2.2.2.1 (by omega) _ _ _, three_other hHeld.2.2.2.2.2.1 (by omega) _ _ _, three_other hHeld.2.2.2.2.2.2.1 (by omega) _ _ _, three_other hHeld.2.2.2.2.2.2.2.1 (by omega) _ _ _, three_other hHeld.2.2.2.2.2.2.2.2 (by omega) _ _ _⟩) (fun hHeld => ?_)
                clear hK K
                try simp only [Act.put, List.getElem_toArray, List.getElem_cons_zero, List.getElem_cons_succ, List.setIfInBounds_toArray, List.set_cons_zero, List.set_cons_succ]
                refine wpAnyH_done (by kernel_rfl) ?_ 0
                have hbn : Below w10.heap.size w10 w12 := hba.trans (c12.mono hba.size)
                have hbw : Below w.heap.size w w12 := HB4.out.trans (b12.mono HB4.out.size)
                have hsz : w10.heap.size < w12.heap.size := Nat.lt_of_lt_of_le hlt c12.size
                refine hkk _ _ ?_
                refine rlight_r4 n m a b c d e k p l cp br w hN HVV.out hk (w10.heap.size) (.slice (some ⟨w9.heap.size, 0, none⟩) 5 5) ⟨_, _, _, rfl⟩ _ _ _ _ _ _ _ _ _ _ _ _ _ _ _ _ _ _ _ _ _ _ _ _ _ _ _ _ _ _ _ _ _ _ _ _ _ _ _ _ _ (Lib.hid (((hbw.setCell (p := ⟨w10.heap.size, 0, none⟩) (show w.heap.size ≤ w10.heap.size by omega) _).setCell (p := ⟨w10.heap.size, 1, none⟩) (show w.heap.size ≤ w10.heap.size by omega) _).setCell (p := ⟨w10.heap.size, 2, none⟩) (show w.heap.size ≤ w10.heap.size by omega) _)) ⟨by omega, by rw [World.size_setCell, World.size_setCell, World.size_setCell]; omega⟩ (by rw [World.size_setCell, World.size_setCell, World.size_setCell]; omega) ⟨three_same p0 p1 p2 _ _ _, hHeld.2.2.2.2.2.2.2.2, hHeld.2.2.2.2.2.1, hHeld.2.2.2.2.2.2.1, hHeld.2.2.2.2.2.2.2.1⟩ (Lib.hid (zero_three HZ.out b12 (by omega) (by omega) _ _ _)) (Lib.hid ?_)
                exact (keep_before HR_10.out hbn _ _ _).mono (by omega)
            · go_simp
              have hal : ∃ W, w9.alloc (.cells #[.bool false, .string ⟨#[]⟩, .slice none 0 0] 80) = W := ⟨_, rfl⟩
              obtain ⟨w10, hal⟩ := hal
              have hba : Below w9.heap.size w9 w10 := by rw [← hal]; exact (Below.refl _ _).alloc (Nat.le_refl _) _
              have b10 : Below w4.heap.size w4 w10 := b9.trans (hba.mono b9.size)
              have c10 : Below w10.heap.size w10 w10 := Below.refl _ _
              have hzi : w4.heap.size ≤ w9.heap.size := b9.size
              have hlt : w9.heap.size < w10.heap.size := by rw [← hal]; simp
              have HZZ := Lib.hid (fun W (hb : Below w10.heap.size w10 W) => zero_cells (w := w9) (W := W) (by rw [hal]; exact hb))
              rw [hal]
              clear hal
              refine hK.out _ _ (HS.out _ b10) (fun hHeld => ?_)
              clear hK K
              try simp only [Act.put, List.getElem_toArray, List.getElem_cons_zero, List.getElem_cons_succ, List.setIfInBounds_toArray, List.set_cons_zero, List.set_cons_succ]
              refine wpAnyH_ready (rs := [15]) (by kernel_rfl) (by simp) ?_
              refine AllReadyH.cons rfl (fun K hK => ?_) AllReadyH.nil
              go_simp
              have hal : ∃ W, w10.alloc (.cells #[.bool false, .string ⟨(num n).toArray⟩, .slice none 0 0, .bool false, .string ⟨(num m).toArray⟩, .slice none 0 0, .bool false, .string a, .slice none 0 0, .bool false, .string b, .slice none 0 0, .bool false, .string c, .slice none 0 0] 80) = W := ⟨_, rfl⟩
              obtain ⟨w11, hal⟩ := hal
              have hb11 : Below w10.heap.size w10 w11 := by rw [← hal]; exact (Below.refl _ _).alloc (Nat.le_refl _) _
              have b11 : Below w4.heap.size w4 w11 := b10.trans (hb11.mono b10.size)
              have c11 : Below w10.heap.size w10 w11 := c10.trans (hb11.mono c10.size)
              have HR_11 := Lib.hid (show RIn w11 w10.heap.size (.slice (some ⟨w10.heap.size, 0, none⟩) 5 5) [itN n, itN m, itT a, itT b, itT c] from by
                rw [← hal]
                refine reads_new w10 (w10.heap.size) 5 [(itN n, .slice none 0 0), (itN m, .slice none 0 0), (itT a, .slice none 0 0), (itT b, .slice none 0 0), (itT c, .slice none 0 0)] rfl c10.size (fun q hq => ?_)
                simp only [List.mem_cons, List.not_mem_nil, or_false] at hq
                rcases hq with rfl | rfl | rfl | rfl | rfl
                · exact RIn.nil _ _
                · exact RIn.nil _ _
                · exact RIn.nil _ _
                · exact RIn.nil _ _
                · exact RIn.nil _ _)
              rw [hal]
              clear hal hb11
              refine hK.out _ _ (HS.out _ b11) (fun hHeld => ?_)
              clear hK K
              try simp only [Act.put, List.getElem_toArray, List.getElem_cons_zero, List.getElem_cons_succ, List.setIfInBounds_toArray, List.set_cons_zero, List.set_cons_succ]
              refine wpAnyH_ready (rs := [16]) (by kernel_rfl) (by simp) ?_
              refine AllReadyH.cons rfl (fun K hK => ?_) AllReadyH.nil
              go_simp
              go_at_call 67
              refine (rlist_any _ _ _ _).mono ?_
              rintro z w12 ⟨rfl, hb12⟩
              have b12 : Below w4.heap.size w4 w12 := b11.trans (hb12.mono b11.size)
              have c12 : Below w10.heap.size w10 w12 := c11.trans (hb12.mono c11.size)
              have HR_12 := Lib.hid (HR_11.out.below hb12)
              clear HR_11
              clear hb12
              refine hK.out _ _ (HS.out _ b12) (fun hHeld => ?_)
              clear hK K
              try simp only [Act.put, List.getElem_toArray, List.getElem_cons_zero, List.getElem_cons_succ, List.setIfInBounds_toArray, List.set_cons_zero, List.set_cons_succ]
              obtain ⟨p0, p1, p2, f0, f1, f2⟩ := HZZ.out _ c12
              refine wpAnyH_ready (rs := [18]) (by kernel_rfl) (by simp) ?_
              refine AllReadyH.cons rfl (fun K hK => ?_) AllReadyH.nil
              go_simp
              refine hK.out _ _ (⟨three_other hHeld.1 (by omega) _ _ _, three_other hHeld.2.1 (by omega) _ _ _, three_other hHeld.2.2.1 (by omega) _ _ _, three_other hHeld.2.2.2.1 (by omega) _ _ _, three_other hHeld.2.2.2.2.1 (by omega) _ _ _, three_other hHeld.2.2.2.2.2.1 (by omega) _ _ _, three_other hHeld.2.2.2.2.2.2.1 (by omega) _ _ _, three_other hHeld.2.2.2.2.2.2.2.1 (by omega) _ _ _, three_other hHeld.2.2.2.2.2.2.2.2 (by omega) _ _ _⟩) (fun hHeld => ?_)
              clear hK K
              try simp only [Act.put, List.getElem_toArray, List.getElem_cons_zero, List.getElem_cons_succ, List.setIfInBounds_toArray, List.set_cons_zero, List.set_cons_succ]
              refine wpAnyH_done (by kernel_rfl) ?_ 0
              have hbn : Below w9.heap.size w9 w12 := hba.trans (c12.mono hba.size)
              have hbw : Below w.heap.size w w12 := HB4.out.trans (b12.mono HB4.out.size)
              have hsz : w9.heap.size < w12.heap.size := Nat.lt_of_lt_of_le hlt c12.size
              refine hkk _ _ ?_
              refine rlight_r4 n m a b c d e k p l cp br w hN HVV.out hk (w9.heap.size) (.slice (some ⟨w10.heap.size, 0, none⟩) 5 5) ⟨_, _, _, rfl⟩ _ _ _ _ _ _ _ _ _ _ _ _ _ _ _ _ _ _ _ _ _ _ _ _ _ _ _ _ _ _ _ _ _ _ _ _ _ _ _ _ _ (Lib.hid (((hbw.setCell (p := ⟨w9.heap.size, 0, none⟩) (show w.heap.size ≤ w9.heap.size by omega) _).setCell (p := ⟨w9.heap.size, 1, none⟩) (show w.heap.size ≤ w9.heap.size by omega) _).setCell (p := ⟨w9.heap.size, 2, none⟩) (show w.heap.size ≤ w9.heap.size by omega) _)) ⟨by omega, by rw [World.size_setCell, World.size_setCell, World.size_setCell]; omega⟩ (by rw [World.size_setCell, World.size_setCell, World.size_setCell]; omega) ⟨three_same p0 p1 p2 _ _ _, hHeld.2.2.2.2.2.2.2.2, hHeld.2.2.2.2.2.1, hHeld.2.2.2.2.2.2.1, hHeld.2.2.2.2.2.2.2.1⟩ (Lib.hid (zero_three HZ.out b12 (by omega) (by omega) _ _ _)) (Lib.hid ?_)
              exact (keep_after HR_12.out hlt _ _ _).mono (by omega)
          · go_simp
            have hal : ∃ W, w8.alloc (.cells #[.bool false, .string ⟨#[]⟩, .slice none 0 0] 80) = W := ⟨_, rfl⟩
            obtain ⟨w9, hal⟩ := hal
            have hba : Below w8.heap.size w8 w9 := by rw [← hal]; exact (Below.refl _ _).alloc (Nat.le_refl _) _
            have b9 : Below w4.heap.size w4 w9 := b8.trans (hba.mono b8.size)
            have c9 : Below w9.heap.size w9 w9 := Below.refl _ _
            have hzi : w4.heap.size ≤ w8.heap.size := b8.size
            have hlt : w8.heap.size < w9.heap.size := by rw [← hal]; simp
            have HZZ := Lib.hid (fun W (hb : Below w9.heap.size w9 W) => zero_cells (w := w8) (W := W) (by rw [hal]; exact hb))
            rw [hal]
            clear hal
            refine hK.out _ _ (HS.out _ b9) (fun hHeld => ?_)
            clear hK K
            try simp only [Act.put, List.getElem_toArray, List.getElem_cons_zero, List.getElem_cons_succ, List.setIfInBounds_toArray, List.set_cons_zero, List.set_cons_succ]
            refine wpAnyH_ready (rs := [14]) (by kernel_rfl) (by simp) ?_
            refine AllReadyH.cons rfl (fun K hK => ?_) AllReadyH.nil
            go_simp
            go_at_call 74
            refine (rtext_any c _).mono ?_
            rintro z w10 ⟨rfl, hb10⟩
            have b10 : Below w4.heap.size w4 w10 := b9.trans (hb10.mono b9.size)
            have c10 : Below w9.heap.size w9 w10 := c9.trans (hb10.mono c9.size)
            clear hb10
            refine hK.out _ _ (HS.out _ b10) (fun hHeld => ?_)
            clear hK K
            try simp only [Act.put, List.getElem_toArray, List.getElem_cons_zero, List.getElem_cons_succ, List.setIfInBounds_toArray, List.set_cons_zero, List.set_cons_succ]
            refine wpAnyH_ready (rs := [15]) (by kernel_rfl) (by simp) ?_
            refine AllReadyH.cons rfl (fun K hK => ?_) AllReadyH.nil
            go_simp
            have hal : ∃ W, w10.alloc (.cells #[.bool false, .string ⟨(num n).toArray⟩, .slice none 0 0, .bool false, .string ⟨(num m).toArray⟩, .slice none 0 0, .bool false, .string a, .slice none 0 0, .bool false, .string b, .slice none 0 0, .bool false, .string c, .slice none 0 0] 80) = W := ⟨_, rfl⟩
            obtain ⟨w11, hal⟩ := hal
            have hb11 : Below w10.heap.size w10 w11 := by rw [← hal]; exact (Below.refl _ _).alloc (Nat.le_refl _) _
            have b11 : Below w4.heap.size w4 w11 := b10.trans (hb11.mono b10.size)
            have c11 : Below w9.heap.size w9 w11 := c10.trans (hb11.mono c10.size)
            have HR_11 := Lib.hid (show RIn w11 w9.heap.size (.slice (some ⟨w10.heap.size, 0, none⟩) 5 5) [itN n, itN m, itT a, itT b, itT c] from by
              rw [← hal]
              refine reads_new w10 (w9.heap.size) 5 [(itN n, .slice none 0 0), (itN m, .slice none 0 0), (itT a, .slice none 0 0), (itT b, .slice none 0 0), (itT c, .slice none 0 0)] rfl c10.size (fun q hq => ?_)
              simp only [List.mem_cons, List.not_mem_nil, or_false] at hq
              rcases hq with rfl | rfl | rfl | rfl | rfl
              · exact RIn.nil _ _
              · exact RIn.nil _ _
              · exact RIn.nil _ _
              · exact RIn.nil _ _
              · exact RIn.nil _ _)
            rw [hal]
            clear hal hb11
            refine hK.out _ _ (HS.out _ b11) (fun hHeld => ?_)
            clear hK K
            try simp only [Act.put, List.getElem_toArray, List.getElem_cons_zero, List.getElem_cons_succ, List.setIfInBounds_toArray, List.set_cons_zero, List.set_cons_succ]
            refine wpAnyH_ready (rs := [16]) (by kernel_rfl) (by simp) ?_
            refine AllReadyH.cons rfl (fun K hK => ?_) AllReadyH.nil
            go_simp
            go_at_call 67
            refine (rlist_any _ _ _ _).mono ?_
            rintro z w12 ⟨rfl, hb12⟩
            have b12 : Below w4.heap.size w4 w12 := b11.trans (hb12.mono b11.size)
            have c12 : Below w9.heap.size w9 w12 := c11.trans (hb12.mono c11.size)
            have HR_12 := Lib.hid (HR_11.out.below hb12)
            clear HR_11
            clear hb12
            refine hK.out _ _ (HS.out _ b12) (fun hHeld => ?_)
            clear hK K
            try simp only [Act.put, List.getElem_toArray, List.getElem_cons_zero, List.getElem_cons_succ, List.setIfInBounds_toArray, List.set_cons_zero, List.set_cons_succ]
            obtain ⟨p0, p1, p2, f0, f1, f2⟩ := HZZ.out _ c12
            refine wpAnyH_ready (rs := [18]) (by kernel_rfl) (by simp) ?_
            refine AllReadyH.cons rfl (fun K hK => ?_) AllReadyH.nil
            go_simp
            refine hK.out _ _ (⟨three_other hHeld.1 (by omega) _ _ _, three_other hHeld.2.1 (by omega) _ _ _, three_other hHeld.2.2.1 (by omega) _ _ _, three_other hHeld.2.2.2.1 (by omega) _ _ _, three_other hHeld.2.2.2.2.1 (by omega) _ _ _, three_other hHeld.2.2.2.2.2.1 (by omega) _ _ _, three_other hHeld.2.2.2.2.2.2.1 (by omega) _ _ _, three_other hHeld.2.2.2.2.2.2.2.1 (by omega) _ _ _, three_other hHeld.2.2.2.2.2.2.2.2 (by omega) _ _ _⟩) (fun hHeld => ?_)
            clear hK K
            try simp only [Act.put, List.getElem_toArray, List.getElem_cons_zero, List.getElem_cons_succ, List.setIfInBounds_toArray, List.set_cons_zero, List.set_cons_succ]
            refine wpAnyH_done (by kernel_rfl) ?_ 0
            have hbn : Below w8.heap.size w8 w12 := hba.trans (c12.mono hba.size)
            have hbw : Below w.heap.size w w12 := HB4.out.trans (b12.mono HB4.out.size)
            have hsz : w8.heap.size < w12.heap.size := Nat.lt_of_lt_of_le hlt c12.size
            refine hkk _ _ ?_
            refine rlight_r4 n m a b c d e k p l cp br w hN HVV.out hk (w8.heap.size) (.slice (some ⟨w10.heap.size, 0, none⟩) 5 5) ⟨_, _, _, rfl⟩ _ _ _ _ _ _ _ _ _ _ _ _ _ _ _ _ _ _ _ _ _ _ _ _ _ _ _ _ _ _ _ _ _ _ _ _ _ _ _ _ _ (Lib.hid (((hbw.setCell (p := ⟨w8.heap.size, 0, none⟩) (show w.heap.size ≤ w8.heap.size by omega) _).setCell (p := ⟨w8.heap.size, 1, none⟩) (show w.heap.size ≤ w8.heap.size by omega) _).setCell (p := ⟨w8.heap.size, 2, none⟩) (show w.heap.size ≤ w8.heap.size by omega) _)) ⟨by omega, by rw [World.size_setCell, World.size_setCell, World.size_setCell]; omega⟩ (by rw [World.size_setCell, World.size_setCell, World.size_setCell]; omega) ⟨three_same p0 p1 p2 _ _ _, hHeld.2.2.2.2.2.2.2.2, hHeld.2.2.2.2.2.1, hHeld.2.2.2.2.2.2.1, hHeld.2.2.2.2.2.2.2.1⟩ (Lib.hid (zero_three HZ.out b12 (by omega) (by omega) _ _ _)) (Lib.hid ?_)
            exact (keep_after HR_12.out hlt _ _ _).mono (by omega)
        · go_simp
          have hal : ∃ W, w7.alloc (.cells #[.bool false, .string ⟨#[]⟩, .slice none 0 0] 80) = W := ⟨_, rfl⟩
          obtain ⟨w8, hal⟩ := hal
          have hba : Below w7.heap.size w7 w8 := by rw [← hal]; exact (Below.refl _ _).alloc (Nat.le_refl _) _
          have b8 : Below w4.heap.size w4 w8 := b7.trans (hba.mono b7.size)
          have c8 : Below w8.heap.size w8 w8 := Below.refl _ _
          have hzi : w4.heap.size ≤ w7.heap.size := b7.size
          have hlt : w7.heap.size < w8.heap.size := by rw [← hal]; simp
          have HZZ := Lib.hid (fun W (hb : Below w8.heap.size w8 W) => zero_cells (w := w7) (W := W) (by rw [hal]; exact hb))
          rw [hal]
          clear hal
          refine hK.out _ _ (HS.out _ b8) (fun hHeld => ?_)
          clear hK K
          try simp only [Act.put, List.getElem_toArray, List.getElem_cons_zero, List.getElem_cons_succ, List.setIfInBounds_toArray, List.set_cons_zero, List.set_cons_succ]
          refine wpAnyH_ready (rs := [11]) (by kernel_rfl) (by simp) ?_
          refine AllReadyH.cons rfl (fun K hK => ?_) AllReadyH.nil
          go_simp
          go_at_call 74
          refine (rtext_any b _).mono ?_
          rintro z w9 ⟨rfl, hb9⟩
          have b9 : Below w4.heap.size w4 w9 := b8.trans (hb9.mono b8.size)
          have c9 : Below w8.heap.size w8 w9 := c8.trans (hb9.mono c8.size)
          clear hb9
          refine hK.out _ _ (HS.out _ b9) (fun hHeld => ?_)
          clear hK K
          try simp only [Act.put, List.getElem_toArray, List.getElem_cons_zero, List.getElem_cons_succ, List.setIfInBounds_toArray, List.set_cons_zero, List.set_cons_succ]
          refine wpAnyH_ready (rs := [14]) (by kernel_rfl) (by simp) ?_
          refine AllReadyH.cons rfl (fun K hK => ?_) AllReadyH.nil
          go_simp
          go_at_call 74
          refine (rtext_any c _).mono ?_
          rintro z w10 ⟨rfl, hb10⟩
          have b10 : Below w4.heap.size w4 w10 := b9.trans (hb10.mono b9.size)
          have c10 : Below w8.heap.size w8 w10 := c9.trans (hb10.mono c9.size)
          clear hb10
          refine hK.out _ _ (HS.out _ b10) (fun hHeld => ?_)
          clear hK K
          try simp only [Act.put, List.getElem_toArray, List.getElem_cons_zero, List.getElem_cons_succ, List.setIfInBounds_toArray, List.set_cons_zero, List.set_cons_succ]
          refine wpAnyH_ready (rs := [15]) (by kernel_rfl) (by simp) ?_
          refine AllReadyH.cons rfl (fun K hK => ?_) AllReadyH.nil
          go_simp
          have hal : ∃ W, w10.alloc (.cells #[.bool false, .string ⟨(num n).toArray⟩, .slice none 0 0, .bool false, .string ⟨(num m).toArray⟩, .slice none 0 0, .bool false, .string a, .slice none 0 0, .bool false, .string b, .slice none 0 0, .bool false, .string c, .slice none 0 0] 80) = W := ⟨_, rfl⟩
          obtain ⟨w11, hal⟩ := hal
          have hb11 : Below w10.heap.size w10 w11 := by rw [← hal]; exact (Below.refl _ _).alloc (Nat.le_refl _) _
          have b11 : Below w4.heap.size w4 w11 := b10.trans (hb11.mono b10.size)
          have c11 : Below w8.heap.size w8 w11 := c10.trans (hb11.mono c10.size)
          have HR_11 := Lib.hid (show RIn w11 w8.heap.size (.slice (some ⟨w10.heap.size, 0, none⟩) 5 5) [itN n, itN m, itT a, itT b, itT c] from by
            rw [← hal]
            refine reads_new w10 (w8.heap.size) 5 [(itN n, .slice none 0 0), (itN m, .slice none 0 0), (itT a, .slice none 0 0), (itT b, .slice none 0 0), (itT c, .slice none 0 0)] rfl c10.size (fun q hq => ?_)
            simp only [List.mem_cons, List.not_mem_nil, or_false] at hq
            rcases hq with rfl | rfl | rfl | rfl | rfl
            · exact RIn.nil _ _
            · exact RIn.nil _ _
            · exact RIn.nil _ _
            · exact RIn.nil _ _
            · exact RIn.nil _ _)
          rw [hal]
          clear hal hb11
          refine hK.out _ _ (HS.out _ b11) (fun hHeld => ?_)
          clear hK K
          try simp only [Act.put, List.getElem_toArray, List.getElem_cons_zero, List.getElem_cons_succ, List.setIfInBounds_toArray, List.set_cons_zero, List.set_cons_succ]
          refine wpAnyH_ready (rs := [16]) (by kernel_rfl) (by simp) ?_
          refine AllReadyH.cons rfl (fun K hK => ?_) AllReadyH.nil
          go_simp
          go_at_call 67
          refine (rlist_any _ _ _ _).mono ?_
          rintro z w12 ⟨rfl, hb12⟩
          have b12 : Below w4.heap.size w4 w12 := b11.trans (hb12.mono b11.size)
          have c12 : Below w8.heap.size w8 w12 := c11.trans (hb12.mono c11.size)
          have HR_12 := Lib.hid (HR_11.out.below hb12)
          clear HR_11
          clear hb12
          refine hK.out _ _ (HS.out _ b12) (fun hHeld => ?_)
          clear hK K
          try simp only [Act.put, List.getElem_toArray, List.getElem_cons_zero, List.getElem_cons_succ, List.setIfInBounds_toArray, List.set_cons_zero, List.set_cons_succ]
          obtain ⟨p0, p1, p2, f0, f1, f2⟩ := HZZ.out _ c12
          refine wpAnyH_ready (rs := [18]) (by kernel_rfl) (by simp) ?_
          refine AllReadyH.cons rfl (fun K hK => ?_) AllReadyH.nil
          go_simp
          refine hK.out _ _ (⟨three_other hHeld.1 (by omega) _ _ _, three_other hHeld.2.1 (by omega) _ _ _, three_other hHeld.2.2.1 (by omega) _ _ _, three_other hHeld.2.2.2.1 (by omega) _ _ _, three_other hHeld.2.2.2.2.1 (by omega) _ _ _, three_other hHeld.2.2.2.2.2.1 (by omega) _ _ _, three_other hHeld.2.2.2.2.2.2.1 (by omega) _ _ _, three_other hHeld.2.2.2.2.2.2.2.1 (by omega) _ _ _, three_other hHeld.2.2.2.2.2.2.2.2 (by omega) _ _ _⟩) (fun hHeld => ?_)
          clear hK K
          try simp only [Act.put, List.getElem_toArray, List.getElem_cons_zero, List.getElem_cons_succ, List.setIfInBounds_toArray, List.set_cons_zero, List.set_cons_succ]
          refine wpAnyH_done (by kernel_rfl) ?_ 0
          have hbn : Below w7.heap.size w7 w12 := hba.trans (c12.mono hba.size)
          have hbw : Below w.heap.size w w12 := HB4.out.trans (b12.mono HB4.out.size)
          have hsz : w7.heap.size < w12.heap.size := Nat.lt_of_lt_of_le hlt c12.size
          refine hkk _ _ ?_
          refine rlight_r4 n m a b c d e k p l cp br w hN HVV.out hk (w7.heap.size) (.slice (some ⟨w10.heap.size, 0, none⟩) 5 5) ⟨_, _, _, rfl⟩ _ _ _ _ _ _ _ _ _ _ _ _ _ _ _ _ _ _ _ _ _ _ _ _ _ _ _ _ _ _ _ _ _ _ _ _ _ _ _ _ _ (Lib.hid (((hbw.setCell (p := ⟨w7.heap.size, 0, none⟩) (show w.heap.size ≤ w7.heap.size by omega) _).setCell (p := ⟨w7.heap.size, 1, none⟩) (show w.heap.size ≤ w7.heap.size by omega) _).setCell (p := ⟨w7.heap.size, 2, none⟩) (show w.heap.size ≤ w7.heap.size by omega) _)) ⟨by omega, by rw [World.size_setCell, World.size_setCell, World.size_setCell]; omega⟩ (by rw [World.size_setCell, World.size_setCell, World.size_setCell]; omega) ⟨three_same p0 p1 p2 _ _ _, hHeld.2.2.2.2.2.2.2.2, hHeld.2.2.2.2.2.1, hHeld.2.2.2.2.2.2.1, hHeld.2.2.2.2.2.2.2.1⟩ (Lib.hid (zero_three HZ.out b12 (by omega) (by omega) _ _ _)) (Lib.hid ?_)
          exact (keep_after HR_12.out hlt _ _ _).mono (by omega)
      · go_simp
        have hal : ∃ W, w6.alloc (.cells #[.bool false, .string ⟨#[]⟩, .slice none 0 0] 80) = W := ⟨_, rfl⟩
        obtain ⟨w7, hal⟩ := hal
        have hba : Below w6.heap.size w6 w7 := by rw [← hal]; exact (Below.refl _ _).alloc (Nat.le_refl _) _
        have b7 : Below w4.heap.size w4 w7 := b6.trans (hba.mono b6.size)
        have c7 : Below w7.heap.size w7 w7 := Below.refl _ _
        have hzi : w4.heap.size ≤ w6.heap.size := b6.size
        have hlt : w6.heap.size < w7.heap.size := by rw [← hal]; simp
        have HZZ := Lib.hid (fun W (hb : Below w7.heap.size w7 W) => zero_cells (w := w6) (W := W) (by rw [hal]; exact hb))
        rw [hal]
        clear hal
        refine hK.out _ _ (HS.out _ b7) (fun hHeld => ?_)
        clear hK K
        try simp only [Act.put, List.getElem_toArray, List.getElem_cons_zero, List.getElem_cons_succ, List.setIfInBounds_toArray, List.set_cons_zero, List.set_cons_succ]
        refine wpAnyH_ready (rs := [8]) (by kernel_rfl) (by simp) ?_
        refine AllReadyH.cons rfl (fun K hK => ?_) AllReadyH.nil
        go_simp
        go_at_call 74
        refine (rtext_any a _).mono ?_
        rintro z w8 ⟨rfl, hb8⟩
        have b8 : Below w4.heap.size w4 w8 := b7.trans (hb8.mono b7.size)
        have c8 : Below w7.heap.size w7 w8 := c7.trans (hb8.mono c7.size)
        clear hb8
        refine hK.out _ _ (HS.out _ b8) (fun hHeld => ?_)
        clear hK K
        try simp only [Act.put, List.getElem_toArray, List.getElem_cons_zero, List.getElem_cons_succ, List.setIfInBounds_toArray, List.set_cons_zero, List.set_cons_succ]
        refine wpAnyH_ready (rs := [11]) (by kernel_rfl) (by simp) ?_
        refine AllReadyH.cons rfl (fun K hK => ?_) AllReadyH.nil
        go_simp
        go_at_call 74
        refine (rtext_any b _).mono ?_
        rintro z w9 ⟨rfl, hb9⟩
        have b9 : Below w4.heap.size w4 w9 := b8.trans (hb9.mono b8.size)
        have c9 : Below w7.heap.size w7 w9 := c8.trans (hb9.mono c8.size)
        clear hb9
        refine hK.out _ _ (HS.out _ b9) (fun hHeld => ?_)
        clear hK K
        try simp only [Act.put, List.getElem_toArray, List.getElem_cons_zero, List.getElem_cons_succ, List.setIfInBounds_toArray, List.set_cons_zero, List.set_cons_succ]
        refine wpAnyH_ready (rs := [14]) (by kernel_rfl) (by simp) ?_
        refine AllReadyH.cons rfl (fun K hK => ?_) AllReadyH.nil
        go_simp
        go_at_call 74
        refine (rtext_any c _).mono ?_
        rintro z w10 ⟨rfl, hb10⟩
        have b10 : Below w4.heap.size w4 w10 := b9.trans (hb10.mono b9.size)
        have c10 : Below w7.heap.size w7 w10 := c9.trans (hb10.mono c9.size)
        clear hb10
        refine hK.out _ _ (HS.out _ b10) (fun hHeld => ?_)
        clear hK K
        try simp only [Act.put, List.getElem_toArray, List.getElem_cons_zero, List.getElem_cons_succ, List.setIfInBounds_toArray, List.set_cons_zero, List.set_cons_succ]
        refine wpAnyH_ready (rs := [15]) (by kernel_rfl) (by simp) ?_
        refine AllReadyH.cons rfl (fun K hK => ?_) AllReadyH.nil
        go_simp
        have hal : ∃ W, w10.alloc (.cells #[.bool false, .string ⟨(num n).toArray⟩, .slice none 0 0, .bool false, .string ⟨(num m).toArray⟩, .slice none 0 0, .bool false, .string a, .slice none 0 0, .bool false, .string b, .slice none 0 0, .bool false, .string c, .slice none 0 0] 80) = W := ⟨_, rfl⟩
        obtain ⟨w11, hal⟩ := hal
        have hb11 : Below w10.heap.size w10 w11 := by rw [← hal]; exact (Below.refl _ _).alloc (Nat.le_refl _) _
        have b11 : Below w4.heap.size w4 w11 := b10.trans (hb11.mono b10.size)
        have c11 : Below w7.heap.size w7 w11 := c10.trans (hb11.mono c10.size)
        have HR_11 := Lib.hid (show RIn w11 w7.heap.size (.slice (some ⟨w10.heap.size, 0, none⟩) 5 5) [itN n, itN m, itT a, itT b, itT c] from by
          rw [← hal]
          refine reads_new w10 (w7.heap.size) 5 [(itN n, .slice none 0 0), (itN m, .slice none 0 0), (itT a, .slice none 0 0), (itT b, .slice none 0 0), (itT c, .slice none 0 0)] rfl c10.size (fun q hq => ?_)
          simp only [List.mem_cons, List.not_mem_nil, or_false] at hq
          rcases hq with rfl | rfl | rfl | rfl | rfl
          · exact RIn.nil _ _
          · exact RIn.nil _ _
          · exact RIn.nil _ _
          · exact RIn.nil _ _
          · exact RIn.nil _ _)
        rw [hal]
        clear hal hb11
        refine hK.out _ _ (HS.out _ b11) (fun hHeld => ?_)
        clear hK K
        try simp only [Act.put, List.getElem_toArray, List.getElem_cons_zero, List.getElem_cons_succ, List.setIfInBounds_toArray, List.set_cons_zero, List.set_cons_succ]
        refine wpAnyH_ready (rs := [16]) (by kernel_rfl) (by simp) ?_
        refine AllReadyH.cons rfl (fun K hK => ?_) AllReadyH.nil
        go_simp
        go_at_call 67
        refine (rlist_any _ _ _ _).mono ?_
        rintro z w12 ⟨rfl, hb12⟩
        have b12 : Below w4.heap.size w4 w12 := b11.trans (hb12.mono b11.size)
        have c12 : Below w7.heap.size w7 w12 := c11.trans (hb12.mono c11.size)
        have HR_12 := Lib.hid (HR_11.out.below hb12)
        clear HR_11
        clear hb12
        refine hK.out _ _ (HS.out _ b12) (fun hHeld => ?_)
        clear hK K
        try simp only [Act.put, List.getElem_toArray, List.getElem_cons_zero, List.getElem_cons_succ, List.setIfInBounds_toArray, List.set_cons_zero, List.set_cons_succ]
        obtain ⟨p0, p1, p2, f0, f1, f2⟩ := HZZ.out _ c12
        refine wpAnyH_ready (rs := [18]) (by kernel_rfl) (by simp) ?_
        refine AllReadyH.cons rfl (fun K hK => ?_) AllReadyH.nil
        go_simp
        refine hK.out _ _ (⟨three_other hHeld.1 (by omega) _ _ _, three_other hHeld.2.1 (by omega) _ _ _, three_other hHeld.2.2.1 (by omega) _ _ _, three_other hHeld.2.2.2.1 (by omega) _ _ _, three_other hHeld.2.2.2.2.1 (by omega) _ _ _, three_other hHeld.2.2.2.2.2.1 (by omega) _ _ _, three_other hHeld.2.2.2.2.2.2.1 (by omega) _ _ _, three_other hHeld.2.2.2.2.2.2.2.1 (by omega) _ _ _, three_other hHeld.2.2.2.2.2.2.2.2 (by omega) _ _ _⟩) (fun hHeld => ?_)
        clear hK K
        try simp only [Act.put, List.getElem_toArray, List.getElem_cons_zero, List.getElem_cons_succ, List.setIfInBounds_toArray, List.set_cons_zero, List.set_cons_succ]
        refine wpAnyH_done (by kernel_rfl) ?_ 0
        have hbn : Below w6.heap.size w6 w12 := hba.trans (c12.mono hba.size)
        have hbw : Below w.heap.size w w12 := HB4.out.trans (b12.mono HB4.out.size)
        have hsz : w6.heap.size < w12.heap.size := Nat.lt_of_lt_of_le hlt c12.size
        refine hkk _ _ ?_
        refine rlight_r4 n m a b c d e k p l cp br w hN HVV.out hk (w6.heap.size) (.slice (some ⟨w10.heap.size, 0, none⟩) 5 5) ⟨_, _, _, rfl⟩ _ _ _ _ _ _ _ _ _ _ _ _ _ _ _ _ _ _ _ _ _ _ _ _ _ _ _ _ _ _ _ _ _ _ _ _ _ _ _ _ _ (Lib.hid (((hbw.setCell (p := ⟨w6.heap.size, 0, none⟩) (show w.heap.size ≤ w6.heap.size by omega) _).setCell (p := ⟨w6.heap.size, 1, none⟩) (show w.heap.size ≤ w6.heap.size by omega) _).setCell (p := ⟨w6.heap.size, 2, none⟩) (show w.heap.size ≤ w6.heap.size by omega) _)) ⟨by omega, by rw [World.size_setCell, World.size_setCell, World.size_setCell]; omega⟩ (by rw [World.size_setCell, World.size_setCell, World.size_setCell]; omega) ⟨three_same p0 p1 p2 _ _ _, hHeld.2.2.2.2.2.2.2.2, hHeld.2.2.2.2.2.1, hHeld.2.2.2.2.2.2.1, hHeld.2.2.2.2.2.2.2.1⟩ (Lib.hid (zero_three HZ.out b12 (by omega) (by omega) _ _ _)) (Lib.hid ?_)
        exact (keep_after HR_12.out hlt _ _ _).mono (by omega)
    · go_simp
      have hal : ∃ W, w5.alloc (.cells #[.bool false, .string ⟨#[]⟩, .slice none 0 0] 80) = W := ⟨_, rfl⟩
      obtain ⟨w6, hal⟩ := hal
      have hba : Below w5.heap.size w5 w6 := by rw [← hal]; exact (Below.refl _ _).alloc (Nat.le_refl _) _
      have b6 : Below w4.heap.size w4 w6 := b5.trans (hba.mono b5.size)
      have c6 : Below w6.heap.size w6 w6 := Below.refl _ _
      have hzi : w4.heap.size ≤ w5.heap.size := b5.size
      have hlt : w5.heap.size < w6.heap.size := by rw [← hal]; simp
      have HZZ := Lib.hid (fun W (hb : Below w6.heap.size w6 W) => zero_cells (w := w5) (W := W) (by rw [hal]; exact hb))
      rw [hal]
      clear hal
      refine hK.out _ _ (HS.out _ b6) (fun hHeld => ?_)
      clear hK K
      try simp only [Act.put, List.getElem_toArray, List.getElem_cons_zero, List.getElem_cons_succ, List.setIfInBounds_toArray, List.set_cons_zero, List.set_cons_succ]
      refine wpAnyH_ready (rs := [5]) (by kernel_rfl) (by simp) ?_
      refine AllReadyH.cons rfl (fun K hK => ?_) AllReadyH.nil
      go_simp
      go_at_call 73
      refine (HM.out _).mono ?_
      rintro z w7 ⟨rfl, hb7⟩
      have b7 : Below w4.heap.size w4 w7 := b6.trans (hb7.mono b6.size)
      have c7 : Below w6.heap.size w6 w7 := c6.trans (hb7.mono c6.size)
      clear hb7
      refine hK.out _ _ (HS.out _ b7) (fun hHeld => ?_)
      clear hK K
      try simp only [Act.put, List.getElem_toArray, List.getElem_cons_zero, List.getElem_cons_succ, List.setIfInBounds_toArray, List.set_cons_zero, List.set_cons_succ]
      refine wpAnyH_ready (rs := [8]) (by kernel_rfl) (by simp) ?_
      refine AllReadyH.cons rfl (fun K hK => ?_) AllReadyH.nil
      go_simp
      go_at_call 74
      refine (rtext_any a _).mono ?_
      rintro z w8 ⟨rfl, hb8⟩
      have b8 : Below w4.heap.size w4 w8 := b7.trans (hb8.mono b7.size)
      have c8 : Below w6.heap.size w6 w8 := c7.trans (hb8.mono c7.size)
      clear hb8
      refine hK.out _ _ (HS.out _ b8) (fun hHeld => ?_)
      clear hK K
      try simp only [Act.put, List.getElem_toArray, List.getElem_cons_zero, List.getElem_cons_succ, List.setIfInBounds_toArray, List.set_cons_zero, List.set_cons_succ]
      refine wpAnyH_ready (rs := [11]) (by kernel_rfl) (by simp) ?_
      refine AllReadyH.cons rfl (fun K hK => ?_) AllReadyH.nil
      go_simp
      go_at_call 74
      refine (rtext_any b _).mono ?_
      rintro z w9 ⟨rfl, hb9⟩
      have b9 : Below w4.heap.size w4 w9 := b8.trans (hb9.mono b8.size)
      have c9 : Below w6.heap.size w6 w9 := c8.trans (hb9.mono c8.size)
      clear hb9
      refine hK.out _ _ (HS.out _ b9) (fun hHeld => ?_)
      clear hK K
      try simp only [Act.put, List.getElem_toArray, List.getElem_cons_zero, List.getElem_cons_succ, List.setIfInBounds_toArray, List.set_cons_zero, List.set_cons_succ]
      refine wpAnyH_ready (rs := [14]) (by kernel_rfl) (by simp) ?_
      refine AllReadyH.cons rfl (fun K hK => ?_) AllReadyH.nil
      go_simp
      go_at_call 74
      refine (rtext_any c _).mono ?_
      rintro z w10 ⟨rfl, hb10⟩
      have b10 : Below w4.heap.size w4 w10 := b9.trans (hb10.mono b9.size)
      have c10 : Below w6.heap.size w6 w10 := c9.trans (hb10.mono c9.size)
      clear hb10
      refine hK.out _ _ (HS.out _ b10) (fun hHeld => ?_)
      clear hK K
      try simp only [Act.put, List.getElem_toArray, List.getElem_cons_zero, List.getElem_cons_succ, List.setIfInBounds_toArray, List.set_cons_zero, List.set_cons_succ]
      refine wpAnyH_ready (rs := [15]) (by kernel_rfl) (by simp) ?_
      refine AllReadyH.cons rfl (fun K hK => ?_) AllReadyH.nil
      go_simp
      have hal : ∃ W, w10.alloc (.cells #[.bool false, .string ⟨(num n).toArray⟩, .slice none 0 0, .bool false, .string ⟨(num m).toArray⟩, .slice none 0 0, .bool false, .string a, .slice none 0 0, .bool false, .string b, .slice none 0 0, .bool false, .string c, .slice none 0 0] 80) = W := ⟨_, rfl⟩
      obtain ⟨w11, hal⟩ := hal
      have hb11 : Below w10.heap.size w10 w11 := by rw [← hal]; exact (Below.refl _ _).alloc (Nat.le_refl _) _
      have b11 : Below w4.heap.size w4 w11 := b10.trans (hb11.mono b10.size)
      have c11 : Below w6.heap.size w6 w11 := c10.trans (hb11.mono c10.size)
      have HR_11 := Lib.hid (show RIn w11 w6.heap.size (.slice (some ⟨w10.heap.size, 0, none⟩) 5 5) [itN n, itN m, itT a, itT b, itT c] from by
        rw [← hal]
        refine reads_new w10 (w6.heap.size) 5 [(itN n, .slice none 0 0), (itN m, .slice none 0 0), (itT a, .slice none 0 0), (itT b, .slice none 0 0), (itT c, .slice none 0 0)] rfl c10.size (fun q hq => ?_)
        simp only [List.mem_cons, List.not_mem_nil, or_false] at hq
        rcases hq with rfl | rfl | rfl | rfl | rfl
        · exact RIn.nil _ _
        · exact RIn.nil _ _
        · exact RIn.nil _ _
        · exact RIn.nil _ _
        · exact RIn.nil _ _)
      rw [hal]
      clear hal hb11
      refine hK.out _ _ (HS.out _ b11) (fun hHeld => ?_)
      clear hK K
      try simp only [Act.put, List.getElem_toArray, List.getElem_cons_zero, List.getElem_cons_succ, List.setIfInBounds_toArray, List.set_cons_zero, List.set_cons_succ]
      refine wpAnyH_ready (rs := [16]) (by kernel_rfl) (by simp) ?_
      refine AllReadyH.cons rfl (fun K hK => ?_) AllReadyH.nil
      go_simp
      go_at_call 67
      refine (rlist_any _ _ _ _).mono ?_
      rintro z w12 ⟨rfl, hb12⟩
      have b12 : Below w4.heap.size w4 w12 := b11.trans (hb12.mono b11.size)
      have c12 : Below w6.heap.size w6 w12 := c11.trans (hb12.mono c11.size)
      have HR_12 := Lib.hid (HR_11.out.below hb12)
      clear HR_11
      clear hb12
      refine hK.out _ _ (HS.out _ b12) (fun hHeld => ?_)
      clear hK K
      try simp only [Act.put, List.getElem_toArray, List.getElem_cons_zero, List.getElem_cons_succ, List.setIfInBounds_toArray, List.set_cons_zero, List.set_cons_succ]
      obtain ⟨p0, p1, p2, f0, f1, f2⟩ := HZZ.out _ c12
      refine wpAnyH_ready (rs := [18]) (by kernel_rfl) (by simp) ?_
      refine AllReadyH.cons rfl (fun K hK => ?_) AllReadyH.nil
      go_simp
      refine hK.out _ _ (⟨three_other hHeld.1 (by omega) _ _ _, three_other hHeld.2.1 (by omega) _ _ _, three_other hHeld.2.2.1 (by omega) _ _ _, three_other hHeld.2.2.2.1 (by omega) _ _ _, three_other hHeld.2.2.2.2.1 (by omega) _ _ _, three_other hHeld.2.2.2.2.2.1 (by omega) _ _ _, three_other hHeld.2.2.2.2.2.2.1 (by omega) _ _ _, three_other hHeld.2.2.2.2.2.2.2.1 (by omega) _ _ _, three_other hHeld.2.2.2.2.2.2.2.2 (by omega) _ _ _⟩) (fun hHeld => ?_)
      clear hK K
      try simp only [Act.put, List.getElem_toArray, List.getElem_cons_zero, List.getElem_cons_succ, List.setIfInBounds_toArray, List.set_cons_zero, List.set_cons_succ]
      refine wpAnyH_done (by kernel_rfl) ?_ 0
      have hbn : Below w5.heap.size w5 w12 := hba.trans (c12.mono hba.size)
      have hbw : Below w.heap.size w w12 := HB4.out.trans (b12.mono HB4.out.size)
      have hsz : w5.heap.size < w12.heap.size := Nat.lt_of_lt_of_le hlt c12.size
      refine hkk _ _ ?_
      refine rlight_r4 n m a b c d e k p l cp br w hN HVV.out hk (w5.heap.size) (.slice (some ⟨w10.heap.size, 0, none⟩) 5 5) ⟨_, _, _, rfl⟩ _ _ _ _ _ _ _ _ _ _ _ _ _ _ _ _ _ _ _ _ _ _ _ _ _ _ _ _ _ _ _ _ _ _ _ _ _ _ _ _ _ (Lib.hid (((hbw.setCell (p := ⟨w5.heap.size, 0, none⟩) (show w.heap.size ≤ w5.heap.size by omega) _).setCell (p := ⟨w5.heap.size, 1, none⟩) (show w.heap.size ≤ w5.heap.size by omega) _).setCell (p := ⟨w5.heap.size, 2, none⟩) (show w.heap.size ≤ w5.heap.size by omega) _)) ⟨by omega, by rw [World.size_setCell, World.size_setCell, World.size_setCell]; omega⟩ (by rw [World.size_setCell, World.size_setCell, World.size_setCell]; omega) ⟨three_same p0 p1 p2 _ _ _, hHeld.2.2.2.2.2.2.2.2, hHeld.2.2.2.2.2.1, hHeld.2.2.2.2.2.2.1, hHeld.2.2.2.2.2.2.2.1⟩ (Lib.hid (zero_three HZ.out b12 (by omega) (by omega) _ _ _)) (Lib.hid ?_)
      exact (keep_after HR_12.out hlt _ _ _).mono (by omega)
  · go_simp
    have hal : ∃ W, (w4.alloc (.cells #[.bool false, .string ⟨#[]⟩, .slice none 0 0] 80)).drew = W := ⟨_, rfl⟩
    obtain ⟨w5, hal⟩ := hal
    have hba : Below w4.heap.size w4 w5 := by rw [← hal]; exact ((Below.refl _ _).alloc (Nat.le_refl _) _).drew
    have b5 : Below w4.heap.size w4 w5 := hba
    have c5 : Below w5.heap.size w5 w5 := Below.refl _ _
    have hzi : w4.heap.size ≤ w4.heap.size := Nat.le_refl _
    have hlt : w4.heap.size < w5.heap.size := by rw [← hal]; show w4.heap.size < (w4.alloc _).heap.size; simp
    have HZZ := Lib.hid (fun W (hb : Below w5.heap.size w5 W) => zero_cells (w := w4) (W := W) (by rw [← hal] at hb; exact (Below.refl _ _).drew.trans hb))
    rw [hal]
    clear hal
    refine hK.out _ _ (HS.out _ b5) (fun hHeld => ?_)
    clear hK K
    try simp only [Act.put, List.getElem_toArray, List.getElem_cons_zero, List.getElem_cons_succ, List.setIfInBounds_toArray, List.set_cons_zero, List.set_cons_succ]
    refine wpAnyH_ready (rs := [2]) (by kernel_rfl) (by simp) ?_
    refine AllReadyH.cons rfl (fun K hK => ?_) AllReadyH.nil
    go_simp
    go_at_call 73
    refine (HN.out _).mono ?_
    rintro z w6 ⟨rfl, hb6⟩
    have b6 : Below w4.heap.size w4 w6 := b5.trans (hb6.mono b5.size)
    have c6 : Below w5.heap.size w5 w6 := c5.trans (hb6.mono c5.size)
    clear hb6
    refine hK.out _ _ (HS.out _ b6) (fun hHeld => ?_)
    clear hK K
    try simp only [Act.put, List.getElem_toArray, List.getElem_cons_zero, List.getElem_cons_succ, List.setIfInBounds_toArray, List.set_cons_zero, List.set_cons_succ]
    refine wpAnyH_ready (rs := [5]) (by kernel_rfl) (by simp) ?_
    refine AllReadyH.cons rfl (fun K hK => ?_) AllReadyH.nil
    go_simp
    go_at_call 73
    refine (HM.out _).mono ?_
    rintro z w7 ⟨rfl, hb7⟩
    have b7 : Below w4.heap.size w4 w7 := b6.trans (hb7.mono b6.size)
    have c7 : Below w5.heap.size w5 w7 := c6.trans (hb7.mono c6.size)
    clear hb7
    refine hK.out _ _ (HS.out _ b7) (fun hHeld => ?_)
    clear hK K
    try simp only [Act.put, List.getElem_toArray, List.getElem_cons_zero, List.getElem_cons_succ, List.setIfInBounds_toArray, List.set_cons_zero, List.set_cons_succ]
    refine wpAnyH_ready (rs := [8]) (by kernel_rfl) (by simp) ?_
    refine AllReadyH.cons rfl (fun K hK => ?_) AllReadyH.nil
    go_simp
    go_at_call 74
    refine (rtext_any a _).mono ?_
    rintro z w8 ⟨rfl, hb8⟩
    have b8 : Below w4.heap.size w4 w8 := b7.trans (hb8.mono b7.size)
    have c8 : Below w5.heap.size w5 w8 := c7.trans (hb8.mono c7.size)
    clear hb8
    refine hK.out _ _ (HS.out _ b8) (fun hHeld => ?_)
    clear hK K
    try simp only [Act.put, List.getElem_toArray, List.getElem_cons_zero, List.getElem_cons_succ, List.setIfInBounds_toArray, List.set_cons_zero, List.set_cons_succ]
    refine wpAnyH_ready (rs := [11]) (by kernel_rfl) (by simp) ?_
    refine AllReadyH.cons rfl (fun K hK => ?_) AllReadyH.nil
    go_simp
    go_at_call 74
    refine (rtext_any b _).mono ?_
    rintro z w9 ⟨rfl, hb9⟩
    have b9 : Below w4.heap.size w4 w9 := b8.trans (hb9.mono b8.size)
    have c9 : Below w5.heap.size w5 w9 := c8.trans (hb9.mono c8.size)
    clear hb9
    refine hK.out _ _ (HS.out _ b9) (fun hHeld => ?_)
    clear hK K
    try simp only [Act.put, List.getElem_toArray, List.getElem_cons_zero, List.getElem_cons_succ, List.setIfInBounds_toArray, List.set_cons_zero, List.set_cons_succ]
    refine wpAnyH_ready (rs := [14]) (by kernel_rfl) (by simp) ?_
    refine AllReadyH.cons rfl (fun K hK => ?_) AllReadyH.nil
    go_simp
    go_at_call 74
    refine (rtext_any c _).mono ?_
    rintro z w10 ⟨rfl, hb10⟩
    have b10 : Below w4.heap.size w4 w10 := b9.trans (hb10.mono b9.size)
    have c10 : Below w5.heap.size w5 w10 := c9.trans (hb10.mono c9.size)
    clear hb10
    refine hK.out _ _ (HS.out _ b10) (fun hHeld => ?_)
    clear hK K
    try simp only [Act.put, List.getElem_toArray, List.getElem_cons_zero, List.getElem_cons_succ, List.setIfInBounds_toArray, List.set_cons_zero, List.set_cons_succ]
    refine wpAnyH_ready (rs := [15]) (by kernel_rfl) (by simp) ?_
    refine AllReadyH.cons rfl (fun K hK => ?_) AllReadyH.nil
    go_simp
    have hal : ∃ W, w10.alloc (.cells #[.bool false, .string ⟨(num n).toArray⟩, .slice none 0 0, .bool false, .string ⟨(num m).toArray⟩, .slice none 0 0, .bool false, .string a, .slice none 0 0, .bool false, .string b, .slice none 0 0, .bool false, .string c, .slice none 0 0] 80) = W := ⟨_, rfl⟩
    obtain ⟨w11, hal⟩ := hal
    have hb11 : Below w10.heap.size w10 w11 := by rw [← hal]; exact (Below.refl _ _).alloc (Nat.le_refl _) _
    have b11 : Below w4.heap.size w4 w11 := b10.trans (hb11.mono b10.size)
    have c11 : Below w5.heap.size w5 w11 := c10.trans (hb11.mono c10.size)
    have HR_11 := Lib.hid (show RIn w11 w5.heap.size (.slice (some ⟨w10.heap.size, 0, none⟩) 5 5) [itN n, itN m, itT a, itT b, itT c] from by
      rw [← hal]
      refine reads_new w10 (w5.heap.size) 5 [(itN n, .slice none 0 0), (itN m, .slice none 0 0), (itT a, .slice none 0 0), (itT b, .slice none 0 0), (itT c, .slice none 0 0)] rfl c10.size (fun q hq => ?_)
      simp only [List.mem_cons, List.not_mem_nil, or_false] at hq
      rcases hq with rfl | rfl | rfl | rfl | rfl
      · exact RIn.nil _ _
      · exact RIn.nil _ _
      · exact RIn.nil _ _
      · exact RIn.nil _ _
      · exact RIn.nil _ _)
    rw [hal]
    clear hal hb11
    refine hK.out _ _ (HS.out _ b11) (fun hHeld => ?_)
    clear hK K
    try simp only [Act.put, List.getElem_toArray, List.getElem_cons_zero, List.getElem_cons_succ, List.setIfInBounds_toArray, List.set_cons_zero, List.set_cons_succ]
    refine wpAnyH_ready (rs := [16]) (by kernel_rfl) (by simp) ?_
    refine AllReadyH.cons rfl (fun K hK => ?_) AllReadyH.nil
    go_simp
    go_at_call 67
    refine (rlist_any _ _ _ _).mono ?_
    rintro z w12 ⟨rfl, hb12⟩
    have b12 : Below w4.heap.size w4 w12 := b11.trans (hb12.mono b11.size)
    have c12 : Below w5.heap.size w5 w12 := c11.trans (hb12.mono c11.size)
    have HR_12 := Lib.hid (HR_11.out.below hb12)
    clear HR_11
    clear hb12
    refine hK.out _ _ (HS.out _ b12) (fun hHeld => ?_)
    clear hK K
    try simp only [Act.put, List.getElem_toArray, List.getElem_cons_zero, List.getElem_cons_succ, List.setIfInBounds_toArray, List.set_cons_zero, List.set_cons_succ]
    obtain ⟨p0, p1, p2, f0, f1, f2⟩ := HZZ.out _ c12
    refine wpAnyH_ready (rs := [18]) (by kernel_rfl) (by simp) ?_
    refine AllReadyH.cons rfl (fun K hK => ?_) AllReadyH.nil
    go_simp
    refine hK.out _ _ (⟨three_other hHeld.1 (by omega) _ _ _, three_other hHeld.2.1 (by omega) _ _ _, three_other hHeld.2.2.1 (by omega) _ _ _, three_other hHeld.2.2.2.1 (by omega) _ _ _, three_other hHeld.2.2.2.2.1 (by omega) _ _ _, three_other hHeld.2.2.2.2.2.1 (by omega) _ _ _, three_other hHeld.2.2.2.2.2.2.1 (by omega) _ _ _, three_other hHeld.2.2.2.2.2.2.2.1 (by omega) _ _ _, three_other hHeld.2.2.2.2.2.2.2.2 (by omega) _ _ _⟩) (fun hHeld => ?_)
    clear hK K
    try simp only [Act.put, List.getElem_toArray, List.getElem_cons_zero, List.getElem_cons_succ, List.setIfInBounds_toArray, List.set_cons_zero, List.set_cons_succ]
    refine wpAnyH_done (by kernel_rfl) ?_ 0
    have hbn : Below w4.heap.size w4 w12 := hba.trans (c12.mono hba.size)
    have hbw : Below w.heap.size w w12 := HB4.out.trans (b12.mono HB4.out.size)
    have hsz : w4.heap.size < w12.heap.size := Nat.lt_of_lt_of_le hlt c12.size
    refine hkk _ _ ?_
    refine rlight_r4 n m a b c d e k p l cp br w hN HVV.out hk (w4.heap.size) (.slice (some ⟨w10.heap.size, 0, none⟩) 5 5) ⟨_, _, _, rfl⟩ _ _ _ _ _ _ _ _ _ _ _ _ _ _ _ _ _ _ _ _ _ _ _ _ _ _ _ _ _ _ _ _ _ _ _ _ _ _ _ _ _ (Lib.hid (((hbw.setCell (p := ⟨w4.heap.size, 0, none⟩) (show w.heap.size ≤ w4.heap.size by omega) _).setCell (p := ⟨w4.heap.size, 1, none⟩) (show w.heap.size ≤ w4.heap.size by omega) _).setCell (p := ⟨w4.heap.size, 2, none⟩) (show w.heap.size ≤ w4.heap.size by omega) _)) ⟨by omega, by rw [World.size_setCell, World.size_setCell, World.size_setCell]; omega⟩ (by rw [World.size_setCell, World.size_setCell, World.size_setCell]; omega) ⟨three_same p0 p1 p2 _ _ _, hHeld.2.2.2.2.2.2.2.2, hHeld.2.2.2.2.2.1, hHeld.2.2.2.2.2.2.1, hHeld.2.2.2.2.2.2.2.1⟩ (Lib.hid (zero_three HZ.out b12 (by omega) (by omega) _ _ _)) (Lib.hid ?_)
    exact (keep_after HR_12.out hlt _ _ _).mono (by omega)
end Go.Proofs.YtfbopnebfdkhdaaDoor
