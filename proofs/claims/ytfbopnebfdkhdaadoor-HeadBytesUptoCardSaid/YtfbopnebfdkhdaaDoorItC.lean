/- Contracts of head.committee, pharosref13.committee: a committee's item. -/
import Derived.Test.YtfbopnebfdkhdaaDoorItI
namespace Go.Proofs.YtfbopnebfdkhdaaDoor
open Go.RowKit Go.Shelf Go.Lib
attribute [local go_sem] Oper.semAt_some

/-- a committee's items -/
def commItems (keys : List ByteArray) (s : ByteArray) : List Item := [itTs keys, itT s]
set_option maxRecDepth 100000 in
set_option maxHeartbeats 3200000 in
theorem itComm_any (v : Value) (keys : List ByteArray) (s : ByteArray) (w : World) (hv : Strs w v keys) (hN : keys.length ≤ 1048576) : Calls Tryd.prog 64 #[.agg #[v, .string s]] w (GivesL w (commItems keys s)) := by
  have HV := Lib.hid hv
  obtain ⟨p, c, rfl, -⟩ := hv
  obtain ⟨n, hn⟩ : ∃ n, keys.length = n := ⟨_, rfl⟩
  rw [hn] at HV hN ⊢
  have HT := Lib.hid (fun W (h : Strs W (.slice p n c) keys) => itTexts_any (.slice p n c) keys W h (by omega))
  clear hn
  go_enter Tryd.func64, Tryd.ntmps64
  go_wp2_with fail
  obtain ⟨w3, hw3⟩ : ∃ w3, (w.alloc (.cells #[.slice p n c, .string s] 44)).alloc (.cells #[.bool false, .string ⟨#[]⟩, .slice none 0 0] 80) = w3 := ⟨_, rfl⟩
  have hz3 : w3.heap.size = w.heap.size + 2 := by rw [← hw3]; simp
  have HB3 := Lib.hid (show Below w.heap.size w w3 from by rw [← hw3]; exact (laid1 w _).alloc (by simp) _)
  have q0 : w3.cell? ⟨w.heap.size, 0, none⟩ = some (.slice p n c) := by
    rw [← hw3]
    exact (((Below.refl (w.alloc (.cells #[.slice p n c, .string s] 44)).heap.size (w.alloc (.cells #[.slice p n c, .string s] 44))).alloc (Nat.le_refl _) (.cells #[.bool false, .string ⟨#[]⟩, .slice none 0 0] 80)).cell (p := ⟨w.heap.size, 0, none⟩) (by simp)).trans (by simp)
  have q1 : w3.cell? ⟨w.heap.size, 1, none⟩ = some (.string s) := by
    rw [← hw3]
    exact (((Below.refl (w.alloc (.cells #[.slice p n c, .string s] 44)).heap.size (w.alloc (.cells #[.slice p n c, .string s] 44))).alloc (Nat.le_refl _) (.cells #[.bool false, .string ⟨#[]⟩, .slice none 0 0] 80)).cell (p := ⟨w.heap.size, 1, none⟩) (by simp)).trans (by simp)
  have HZ := Lib.hid (fun W (hb : Below w3.heap.size w3 W) => (show _ from by
    have := zero_cells (w := w.alloc (.cells #[.slice p n c, .string s] 44)) (W := W) (by rw [hw3]; exact hb)
    rw [World.size_alloc] at this
    exact this))
  have HS := Lib.hid (fun W (hb : Below w3.heap.size w3 W) => And.intro ((hb.cell (p := ⟨w.heap.size, 0, none⟩) (by dsimp only; omega)).trans q0) ((hb.cell (p := ⟨w.heap.size, 1, none⟩) (by dsimp only; omega)).trans q1))
  rw [hw3]
  clear hw3 q0 q1
  have b3 : Below w3.heap.size w3 w3.drew := (Below.refl _ _).drew
  refine wp_region_held_drew (S := (fun W => W.cell? ⟨w.heap.size, 0, none⟩ = some (.slice p n c) ∧ W.cell? ⟨w.heap.size, 1, none⟩ = some (.string s))) (by kernel_rfl) (HS.out _ b3) (fun hHeld => ?_)
  refine wpAnyH_take (i := 0) (v := ?_) rfl (by kernel_rfl) (by kernel_rfl) (by kernel_rfl) (fun _ _ _ h => h) (.inl ⟨by rfl, ?_⟩) (by assumption) ?_
  rotate_left 1
  · intro w0 hSw
    go_simp <;> with_reducible rfl
  try simp only [Act.put, List.getElem_toArray, List.getElem_cons_zero, List.setIfInBounds_toArray, List.set_cons_zero, List.set_cons_succ]
  refine wpAnyH_take (i := 1) (v := ?_) rfl (by kernel_rfl) (by kernel_rfl) (by kernel_rfl) (fun _ _ _ h => h) (.inl ⟨by rfl, ?_⟩) (by assumption) ?_
  rotate_left 1
  · intro w0 hSw
    obtain ⟨z0, z1⟩ := hSw
    go_simp <;> with_reducible rfl
  try simp only [Act.put, List.getElem_toArray, List.getElem_cons_zero, List.getElem_cons_succ, List.setIfInBounds_toArray, List.set_cons_zero, List.set_cons_succ]
  refine wpAnyH_take (i := 3) (v := ?_) rfl (by kernel_rfl) (by kernel_rfl) (by kernel_rfl) (fun _ _ _ h => h) (.inl ⟨by rfl, ?_⟩) (by assumption) ?_
  rotate_left 1
  · intro w0 hSw
    go_simp <;> with_reducible rfl
  try simp only [Act.put, List.getElem_toArray, List.getElem_cons_zero, List.getElem_cons_succ, List.setIfInBounds_toArray, List.set_cons_zero, List.set_cons_succ]
  refine wpAnyH_take (i := 4) (v := ?_) rfl (by kernel_rfl) (by kernel_rfl) (by kernel_rfl) (fun _ _ _ h => h) (.inl ⟨by rfl, ?_⟩) (by assumption) ?_
  rotate_left 1
  · intro w0 hSw
    obtain ⟨z0, z1⟩ := hSw
    go_simp <;> with_reducible rfl
  try simp only [Act.put, List.getElem_toArray, List.getElem_cons_zero, List.getElem_cons_succ, List.setIfInBounds_toArray, List.set_cons_zero, List.set_cons_succ]
  refine wpAnyH_ready (rs := [2]) (by kernel_rfl) (by simp) ?_
  refine AllReadyH.cons rfl (fun K hK => ?_) AllReadyH.nil
  go_simp
  go_at_call 65
  refine (HT.out _ (HV.out.below (HB3.out.trans (b3.mono HB3.out.size)))).mono ?_
  rintro e w4 ⟨p4, n4, c4, rfl, hr4, hb4⟩
  have b4 : Below w3.heap.size w3 w4 := b3.trans (hb4.mono b3.size)
  have HR4 := Lib.hid (RIn.mono hr4 b3.size)
  clear hb4 hr4
  refine hK.out _ _ (HS.out _ b4) (fun hHeld => ?_)
  clear hK K
  try simp only [Act.put, List.getElem_toArray, List.getElem_cons_zero, List.getElem_cons_succ, List.setIfInBounds_toArray, List.set_cons_zero, List.set_cons_succ]
  refine wpAnyH_ready (rs := [5]) (by kernel_rfl) (by simp) ?_
  refine AllReadyH.cons rfl (fun K hK => ?_) AllReadyH.nil
  go_simp
  go_at_call 72
  refine (text_any s w4).mono ?_
  rintro e w5 ⟨rfl, hb5⟩
  have b5 : Below w3.heap.size w3 w5 := b4.trans (hb5.mono b4.size)
  have HR5 := Lib.hid (HR4.out.below hb5)
  clear hb5 HR4
  refine hK.out _ _ (HS.out _ b5) (fun hHeld => ?_)
  clear hK K
  try simp only [Act.put, List.getElem_toArray, List.getElem_cons_zero, List.getElem_cons_succ, List.setIfInBounds_toArray, List.set_cons_zero, List.set_cons_succ]
  refine wpAnyH_ready (rs := [6]) (by kernel_rfl) (by simp) ?_
  refine AllReadyH.cons rfl (fun K hK => ?_) AllReadyH.nil
  go_simp
  have b6 : Below w3.heap.size w3 (w5.alloc (.cells #[.bool true, .string ⟨#[]⟩, .slice p4 n4 c4, .bool false, .string s, .slice none 0 0] 80)) := b5.alloc b5.size _
  have HR6 := Lib.hid (show RIn (w5.alloc (.cells #[.bool true, .string ⟨#[]⟩, .slice p4 n4 c4, .bool false, .string s, .slice none 0 0] 80)) w3.heap.size (.slice (some ⟨w5.heap.size, 0, none⟩) 2 2) (commItems keys s) from reads_new w5 w3.heap.size 2 [(itTs keys, .slice p4 n4 c4), (itT s, .slice none 0 0)] rfl b5.size (fun q hq => by
    simp only [List.mem_cons, List.not_mem_nil, or_false] at hq
    rcases hq with rfl | rfl
    · exact HR5.out
    · exact RIn.nil _ _))
  refine hK.out _ _ (HS.out _ b6) (fun hHeld => ?_)
  clear hK K
  try simp only [Act.put, List.getElem_toArray, List.getElem_cons_zero, List.getElem_cons_succ, List.setIfInBounds_toArray, List.set_cons_zero, List.set_cons_succ]
  refine wpAnyH_ready (rs := [7]) (by kernel_rfl) (by simp) ?_
  refine AllReadyH.cons rfl (fun K hK => ?_) AllReadyH.nil
  go_simp
  go_at_call 62
  refine (list_any _ _ _ _).mono ?_
  rintro e w7 ⟨rfl, hb7⟩
  have b7 : Below w3.heap.size w3 w7 := b6.trans (hb7.mono b6.size)
  have HR7 := Lib.hid (HR6.out.below hb7)
  obtain ⟨p0, p1, p2, f0, f1, f2⟩ := HZ.out w7 b7
  clear hb7 HR6
  refine hK.out _ _ (HS.out _ b7) (fun hHeld => ?_)
  clear hK K
  try simp only [Act.put, List.getElem_toArray, List.getElem_cons_zero, List.getElem_cons_succ, List.setIfInBounds_toArray, List.set_cons_zero, List.set_cons_succ]
  refine wpAnyH_ready (rs := [8]) (by kernel_rfl) (by simp) ?_
  refine AllReadyH.cons rfl (fun K hK => ?_) AllReadyH.nil
  go_simp
  refine hK.out _ _ (⟨three_other hHeld.1 (by omega) _ _ _, three_other hHeld.2 (by omega) _ _ _⟩) (fun hHeld => ?_)
  clear hK K
  try simp only [Act.put, List.getElem_toArray, List.getElem_cons_zero, List.getElem_cons_succ, List.setIfInBounds_toArray, List.set_cons_zero, List.set_cons_succ]
  refine wpAnyH_done (by kernel_rfl) ?_ 0
  go_wp2_with fail
  refine bodyPost_ret (results_item0 rfl _ _ (w.heap.size + 1) (.bool true) (.string ⟨#[]⟩) (.slice (some ⟨w5.heap.size, 0, none⟩) 2 2) rfl ?_ ?_ ?_) rfl ?_
  · simp [go_sem, p0]
  · simp [go_sem, p1]
  · simp [go_sem, p2]
  have hb8 : Below w.heap.size w w7 := HB3.out.trans (b7.mono HB3.out.size)
  refine ⟨_, _, _, rfl, ?_, ((hb8.setCell (p := ⟨w.heap.size + 1, 0, none⟩) (Nat.le_succ _) _).setCell (p := ⟨w.heap.size + 1, 1, none⟩) (Nat.le_succ _) _).setCell (p := ⟨w.heap.size + 1, 2, none⟩) (Nat.le_succ _) _⟩
  exact RIn.mono (((HR7.out.store (g := w.heap.size + 1) (by omega) _).store (g := w.heap.size + 1) (by omega) _).store (g := w.heap.size + 1) (by omega) _) (by omega)
set_option maxRecDepth 100000 in
set_option maxHeartbeats 3200000 in
theorem ritComm_any (v : Value) (keys : List ByteArray) (s : ByteArray) (w : World) (hv : Strs w v keys) (hN : keys.length ≤ 1048576) : Calls Tryd.prog 69 #[.agg #[v, .string s]] w (GivesL w (commItems keys s)) := by
  have HV := Lib.hid hv
  obtain ⟨p, c, rfl, -⟩ := hv
  obtain ⟨n, hn⟩ : ∃ n, keys.length = n := ⟨_, rfl⟩
  rw [hn] at HV hN ⊢
  have HT := Lib.hid (fun W (h : Strs W (.slice p n c) keys) => ritTexts_any (.slice p n c) keys W h (by omega))
  clear hn
  go_enter Tryd.func69, Tryd.ntmps69
  go_wp2_with fail
  obtain ⟨w3, hw3⟩ : ∃ w3, (w.alloc (.cells #[.slice p n c, .string s] 44)).alloc (.cells #[.bool false, .string ⟨#[]⟩, .slice none 0 0] 80) = w3 := ⟨_, rfl⟩
  have hz3 : w3.heap.size = w.heap.size + 2 := by rw [← hw3]; simp
  have HB3 := Lib.hid (show Below w.heap.size w w3 from by rw [← hw3]; exact (laid1 w _).alloc (by simp) _)
  have q0 : w3.cell? ⟨w.heap.size, 0, none⟩ = some (.slice p n c) := by
    rw [← hw3]
    exact (((Below.refl (w.alloc (.cells #[.slice p n c, .string s] 44)).heap.size (w.alloc (.cells #[.slice p n c, .string s] 44))).alloc (Nat.le_refl _) (.cells #[.bool false, .string ⟨#[]⟩, .slice none 0 0] 80)).cell (p := ⟨w.heap.size, 0, none⟩) (by simp)).trans (by simp)
  have q1 : w3.cell? ⟨w.heap.size, 1, none⟩ = some (.string s) := by
    rw [← hw3]
    exact (((Below.refl (w.alloc (.cells #[.slice p n c, .string s] 44)).heap.size (w.alloc (.cells #[.slice p n c, .string s] 44))).alloc (Nat.le_refl _) (.cells #[.bool false, .string ⟨#[]⟩, .slice none 0 0] 80)).cell (p := ⟨w.heap.size, 1, none⟩) (by simp)).trans (by simp)
  have HZ := Lib.hid (fun W (hb : Below w3.heap.size w3 W) => (show _ from by
    have := zero_cells (w := w.alloc (.cells #[.slice p n c, .string s] 44)) (W := W) (by rw [hw3]; exact hb)
    rw [World.size_alloc] at this
    exact this))
  have HS := Lib.hid (fun W (hb : Below w3.heap.size w3 W) => And.intro ((hb.cell (p := ⟨w.heap.size, 0, none⟩) (by dsimp only; omega)).trans q0) ((hb.cell (p := ⟨w.heap.size, 1, none⟩) (by dsimp only; omega)).trans q1))
  rw [hw3]
  clear hw3 q0 q1
  have b3 : Below w3.heap.size w3 w3.drew := (Below.refl _ _).drew
  refine wp_region_held_drew (S := (fun W => W.cell? ⟨w.heap.size, 0, none⟩ = some (.slice p n c) ∧ W.cell? ⟨w.heap.size, 1, none⟩ = some (.string s))) (by kernel_rfl) (HS.out _ b3) (fun hHeld => ?_)
  refine wpAnyH_take (i := 0) (v := ?_) rfl (by kernel_rfl) (by kernel_rfl) (by kernel_rfl) (fun _ _ _ h => h) (.inl ⟨by rfl, ?_⟩) (by assumption) ?_
  rotate_left 1
  · intro w0 hSw
    go_simp <;> with_reducible rfl
  try simp only [Act.put, List.getElem_toArray, List.getElem_cons_zero, List.setIfInBounds_toArray, List.set_cons_zero, List.set_cons_succ]
  refine wpAnyH_take (i := 1) (v := ?_) rfl (by kernel_rfl) (by kernel_rfl) (by kernel_rfl) (fun _ _ _ h => h) (.inl ⟨by rfl, ?_⟩) (by assumption) ?_
  rotate_left 1
  · intro w0 hSw
    obtain ⟨z0, z1⟩ := hSw
    go_simp <;> with_reducible rfl
  try simp only [Act.put, List.getElem_toArray, List.getElem_cons_zero, List.getElem_cons_succ, List.setIfInBounds_toArray, List.set_cons_zero, List.set_cons_succ]
  refine wpAnyH_take (i := 3) (v := ?_) rfl (by kernel_rfl) (by kernel_rfl) (by kernel_rfl) (fun _ _ _ h => h) (.inl ⟨by rfl, ?_⟩) (by assumption) ?_
  rotate_left 1
  · intro w0 hSw
    go_simp <;> with_reducible rfl
  try simp only [Act.put, List.getElem_toArray, List.getElem_cons_zero, List.getElem_cons_succ, List.setIfInBounds_toArray, List.set_cons_zero, List.set_cons_succ]
  refine wpAnyH_take (i := 4) (v := ?_) rfl (by kernel_rfl) (by kernel_rfl) (by kernel_rfl) (fun _ _ _ h => h) (.inl ⟨by rfl, ?_⟩) (by assumption) ?_
  rotate_left 1
  · intro w0 hSw
    obtain ⟨z0, z1⟩ := hSw
    go_simp <;> with_reducible rfl
  try simp only [Act.put, List.getElem_toArray, List.getElem_cons_zero, List.getElem_cons_succ, List.setIfInBounds_toArray, List.set_cons_zero, List.set_cons_succ]
  refine wpAnyH_ready (rs := [2]) (by kernel_rfl) (by simp) ?_
  refine AllReadyH.cons rfl (fun K hK => ?_) AllReadyH.nil
  go_simp
  go_at_call 70
  refine (HT.out _ (HV.out.below (HB3.out.trans (b3.mono HB3.out.size)))).mono ?_
  rintro e w4 ⟨p4, n4, c4, rfl, hr4, hb4⟩
  have b4 : Below w3.heap.size w3 w4 := b3.trans (hb4.mono b3.size)
  have HR4 := Lib.hid (RIn.mono hr4 b3.size)
  clear hb4 hr4
  refine hK.out _ _ (HS.out _ b4) (fun hHeld => ?_)
  clear hK K
  try simp only [Act.put, List.getElem_toArray, List.getElem_cons_zero, List.getElem_cons_succ, List.setIfInBounds_toArray, List.set_cons_zero, List.set_cons_succ]
  refine wpAnyH_ready (rs := [5]) (by kernel_rfl) (by simp) ?_
  refine AllReadyH.cons rfl (fun K hK => ?_) AllReadyH.nil
  go_simp
  go_at_call 74
  refine (rtext_any s w4).mono ?_
  rintro e w5 ⟨rfl, hb5⟩
  have b5 : Below w3.heap.size w3 w5 := b4.trans (hb5.mono b4.size)
  have HR5 := Lib.hid (HR4.out.below hb5)
  clear hb5 HR4
  refine hK.out _ _ (HS.out _ b5) (fun hHeld => ?_)
  clear hK K
  try simp only [Act.put, List.getElem_toArray, List.getElem_cons_zero, List.getElem_cons_succ, List.setIfInBounds_toArray, List.set_cons_zero, List.set_cons_succ]
  refine wpAnyH_ready (rs := [6]) (by kernel_rfl) (by simp) ?_
  refine AllReadyH.cons rfl (fun K hK => ?_) AllReadyH.nil
  go_simp
  have b6 : Below w3.heap.size w3 (w5.alloc (.cells #[.bool true, .string ⟨#[]⟩, .slice p4 n4 c4, .bool false, .string s, .slice none 0 0] 80)) := b5.alloc b5.size _
  have HR6 := Lib.hid (show RIn (w5.alloc (.cells #[.bool true, .string ⟨#[]⟩, .slice p4 n4 c4, .bool false, .string s, .slice none 0 0] 80)) w3.heap.size (.slice (some ⟨w5.heap.size, 0, none⟩) 2 2) (commItems keys s) from reads_new w5 w3.heap.size 2 [(itTs keys, .slice p4 n4 c4), (itT s, .slice none 0 0)] rfl b5.size (fun q hq => by
    simp only [List.mem_cons, List.not_mem_nil, or_false] at hq
    rcases hq with rfl | rfl
    · exact HR5.out
    · exact RIn.nil _ _))
  refine hK.out _ _ (HS.out _ b6) (fun hHeld => ?_)
  clear hK K
  try simp only [Act.put, List.getElem_toArray, List.getElem_cons_zero, List.getElem_cons_succ, List.setIfInBounds_toArray, List.set_cons_zero, List.set_cons_succ]
  refine wpAnyH_ready (rs := [7]) (by kernel_rfl) (by simp) ?_
  refine AllReadyH.cons rfl (fun K hK => ?_) AllReadyH.nil
  go_simp
  go_at_call 67
  refine (rlist_any _ _ _ _).mono ?_
  rintro e w7 ⟨rfl, hb7⟩
  have b7 : Below w3.heap.size w3 w7 := b6.trans (hb7.mono b6.size)
  have HR7 := Lib.hid (HR6.out.below hb7)
  obtain ⟨p0, p1, p2, f0, f1, f2⟩ := HZ.out w7 b7
  clear hb7 HR6
  refine hK.out _ _ (HS.out _ b7) (fun hHeld => ?_)
  clear hK K
  try simp only [Act.put, List.getElem_toArray, List.getElem_cons_zero, List.getElem_cons_succ, List.setIfInBounds_toArray, List.set_cons_zero, List.set_cons_succ]
  refine wpAnyH_ready (rs := [8]) (by kernel_rfl) (by simp) ?_
  refine AllReadyH.cons rfl (fun K hK => ?_) AllReadyH.nil
  go_simp
  refine hK.out _ _ (⟨three_other hHeld.1 (by omega) _ _ _, three_other hHeld.2 (by omega) _ _ _⟩) (fun hHeld => ?_)
  clear hK K
  try simp only [Act.put, List.getElem_toArray, List.getElem_cons_zero, List.getElem_cons_succ, List.setIfInBounds_toArray, List.set_cons_zero, List.set_cons_succ]
  refine wpAnyH_done (by kernel_rfl) ?_ 0
  go_wp2_with fail
  refine bodyPost_ret (results_item0 rfl _ _ (w.heap.size + 1) (.bool true) (.string ⟨#[]⟩) (.slice (some ⟨w5.heap.size, 0, none⟩) 2 2) rfl ?_ ?_ ?_) rfl ?_
  · simp [go_sem, p0]
  · simp [go_sem, p1]
  · simp [go_sem, p2]
  have hb8 : Below w.heap.size w w7 := HB3.out.trans (b7.mono HB3.out.size)
  refine ⟨_, _, _, rfl, ?_, ((hb8.setCell (p := ⟨w.heap.size + 1, 0, none⟩) (Nat.le_succ _) _).setCell (p := ⟨w.heap.size + 1, 1, none⟩) (Nat.le_succ _) _).setCell (p := ⟨w.heap.size + 1, 2, none⟩) (Nat.le_succ _) _⟩
  exact RIn.mono (((HR7.out.store (g := w.heap.size + 1) (by omega) _).store (g := w.heap.size + 1) (by omega) _).store (g := w.heap.size + 1) (by omega) _) (by omega)
end Go.Proofs.YtfbopnebfdkhdaaDoor
