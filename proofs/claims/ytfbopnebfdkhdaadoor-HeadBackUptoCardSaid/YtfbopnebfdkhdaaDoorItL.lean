/- Contracts of head.committee, pharosref13.committee: a committee's item. -/
import Derived.Test.YtfbopnebfdkhdaaDoorItI
namespace Go.Proofs.YtfbopnebfdkhdaaDoor
open Go.RowKit Go.Shelf Go.Lib
attribute [local go_sem] Oper.semAt_some

/-- a committee's items -/
def commItems (keys : List ByteArray) (s : ByteArray) : List Item := [itTs keys, itT s]
set_option maxRecDepth 100000 in
set_option maxHeartbeats 3200000 in
theorem itComm_any (v : Value) (keys : List ByteArray) (s : ByteArray) (w : World) (hv : Strs w v keys) (hN : keys.length ≤ 1048576) : Calls Tryd.prog 64 #[.agg #[v, .string s]] w (GivesL w (commItems keys s)) := by
  have HV := Lib.hid hv
  obtain ⟨p, c, rfl, -⟩ := hv
  obtain ⟨n, hn⟩ : ∃ n, keys.length = n := ⟨_, rfl⟩
  rw [hn] at HV hN ⊢
  have HT := Lib.hid (fun W (h : Strs W (.slice p n c) keys) => itTexts_any (.slice p n c) keys W h (by omega))
  clear hn
  go_enter Tryd.func64, Tryd.ntmps64
  go_wp2_with fail
  obtain ⟨w3, hw3⟩ : ∃ w3, (w.alloc (.cells #[.slice p n c, .string s] 44)).alloc (.cells #[.bool false, .string ⟨#[]⟩, .slice none 0 0] 80) = w3 := ⟨_, rfl⟩
  have hz3 : w3.heap.size = w.heap.size + 2 := by rw [← hw3]; simp
  have HB3 := Lib.hid (show Below w.heap.size w w3 from by rw [← hw3]; exact (laid1 w _).alloc (by simp) _)
  have q0 : w3.cell? ⟨w.heap.size, 0, none⟩ = some (.slice p n c) := by
    rw [← hw3]
    exact (((Below.refl (w.alloc (.cells #[.slice p n c, .string s] 44)).heap.size (w.alloc (.cells #[.slice p n c, .string s] 44))).alloc (Nat.le_refl _) (.cells #[.bool false, .string ⟨#[]⟩, .slice none 0 0] 80)).cell (p := ⟨w.heap.size, 0, none⟩) (by simp)).trans (by simp)
  have q1 : w3.cell? ⟨w.heap.size, 1, none⟩ = some (.string s) := by
    rw [← hw3]
    exact (((Below.refl (w.alloc (.cells #[.slice p n c, .string s] 44)).heap.size (w.alloc (.cells #[.slice p n c, .string s] 44))).alloc (Nat.le_refl _) (.cells #[.bool false, .string ⟨#[]⟩, .slice none 0 0] 80)).cell (p := ⟨w.heap.size, 1, none⟩) (by simp)).trans (by simp)
  have HZ := Lib.hid (fun W (hb : Below w3.heap.size w3 W) => (show _ from by
    have := zero_cells (w := w.alloc (.cells #[.slice p n c, .string s] 44)) (W := W) (by rw [hw3]; exact hb)
    rw [World.size_alloc] at this
    exact this))
  have HS := Lib.hid (fun W (hb : Below w3.heap.size w3 W) => And.intro ((hb.cell (p := ⟨w.heap.size, 0, none⟩) (by dsimp only; omega)).trans q0) ((hb.cell (p := ⟨w.heap.size, 1, none⟩) (by dsimp only; omega)).trans q1))
  rw [hw3]
  clear hw3 q0 q1
  have b3 : Below w3.heap.size w3 w3.drew := (Below.refl _ _).drew
  refine wp_region_held_drew (S := (fun W => W.cell? ⟨w.heap.size, 0, none⟩ = some (.slice p n c) ∧ W.cell? ⟨w.heap.size, 1, none⟩ = some (.string s))) (by kernel_rfl) (HS.out _ b3) (fun hHeld => ?_)
  refine wpAnyH_take (i := 0) (v := ?_) rfl (by kernel_rfl) (by kernel_rfl) (by kernel_rfl) (fun _ _ _ h => h) (.inl ⟨by rfl, ?_⟩) (by assumption) ?_
  rotate_left 1
  · intro w0 hSw
    go_simp <;> with_reducible rfl
  try simp only [Act.put, List.getElem_toArray, List.getElem_cons_zero, List.setIfInBounds_toArray, List.set_cons_zero, List.set_cons_succ]
  refine wpAnyH_take (i := 1) (v := ?_) rfl (by kernel_rfl) (by kernel_rfl) (by kernel_rfl) (fun _ _ _ h => h) (.inl ⟨by rfl, ?_⟩) (by assumption) ?_
  rotate_left 1
  · intro w0 hSw
    obtain ⟨z0, z1⟩ := hSw
    go_simp <;> with_reducible rfl
  try simp only [Act.put, List.getElem_toArray, List.getElem_cons_zero, List.getElem_cons_succ, List.setIfInBounds_toArray, List.set_cons_zero, List.set_cons_succ]
  refine wpAnyH_take (i := 3) (v := ?_) rfl (by kernel_rfl) (by kernel_rfl) (by kernel_rfl) (fun _ _ _ h => h) (.inl ⟨by rfl, ?_⟩) (by assumption) ?_
  rotate_left 1
  · intro w0 hSw
    go_simp <;> with_reducible rfl
  try simp only [Act.put, List.getElem_toArray, List.getElem_cons_zero, List.getElem_cons_succ, List.setIfInBounds_toArray, List.set_cons_zero, List.set_cons_succ]
  refine wpAnyH_take (i := 4) (v := ?_) rfl (by kernel_rfl) (by kernel_rfl) (by kernel_rfl) (fun _ _ _ h => h) (.inl ⟨by rfl, ?_⟩) (by assumption) ?_
  rotate_left 1
  · intro w0 hSw
    obtain ⟨z0, z1⟩ := hSw
    go_simp <;> with_reducible rfl
  try simp only [Act.put, List.getElem_toArray, List.getElem_cons_zero, List.getElem_cons_succ, List.setIfInBounds_toArray, List.set_cons_zero, List.set_cons_succ]
  refine wpAnyH_ready (rs := [2]) (by kernel_rfl) (by simp) ?_
  refine AllReadyH.cons rfl (fun K hK => ?_) AllReadyH.nil
  go_simp
  go_at_call 65
  refine (HT.out _ (HV.out.below (HB3.out.trans (b3.mono HB3.out.size)))).mono ?_
  rintro e w4 ⟨p4, n4, c4, rfl, hr4, hb4⟩
  have b4 : Below w3.heap.size w3 w4 := b3.trans (hb4.mono b3.size)
  have HR4 := Lib.hid (RIn.mono hr4 b3.size)
  clear hb4 hr4
  refine hK.out _ _ (HS.out _ b4) (fun hHeld => ?_)
  clear hK K
  try simp only [Act.put, List.getElem_toArray, List.getElem_cons_zero, List.getElem_cons_succ, List.setIfInBounds_toArray, List.set_cons_zero, List.set_cons_succ]
  refine wpAnyH_ready (rs := [5]) (by kernel_rfl) (by simp) ?_
  refine AllReadyH.cons rfl (fun K hK => ?_) AllReadyH.nil
  go_simp
  go_at_call 72
  refine (text_any s w4).mono ?_
  rintro e w5 ⟨rfl, hb5⟩
  have b5 : Below w3.heap.size w3 w5 := b4.trans (hb5.mono b4.size)
  have HR5 := Lib.hid (HR4.out.below hb5)
  clear hb5 HR4
  refine hK.out _ _ (HS.out _ b5) (fun hHeld => ?_)
  clear hK K
  try simp only [Act.put, List.getElem_toArray, List.getElem_cons_zero, List.getElem_cons_succ, List.setIfInBounds_toArray, List.set_cons_zero, List.set_cons_succ]
  refine wpAnyH_ready (rs := [6]) (by kernel_rfl) (by simp) ?_
  refine AllReadyH.cons rfl (fun K hK => ?_) AllReadyH.nil
  go_simp
  have b6 : Below w3.heap.size w3 (w5.alloc (.cells #[.bool true, .string ⟨#[]⟩, .slice p4 n4 c4, .bool false, .string s, .slice none 0 0] 80)) := b5.alloc b5.size _
  have HR6 := Lib.hid (show RIn (w5.alloc (.cells #[.bool true, .string ⟨#[]⟩, .slice p4 n4 c4, .bool false, .string s, .slice none 0 0] 80)) w3.heap.size (.slice (some ⟨w5.heap.size, 0, none⟩) 2 2) (commItems keys s) from reads_new w5 w3.heap.size 2 [(itTs keys, .slice p4 n4 c4), (itT s, .slice none 0 0)] rfl b5.size (fun q hq => by
    simp only [List.mem_cons, List.not_mem_nil, or_false] at hq
    rcases hq with rfl | rfl
    · exact HR5.out
    · exact RIn.nil _ _))
  refine hK.out _ _ (HS.out _ b6) (fun hHeld => ?_)
  clear hK K
  try simp only [Act.put, List.getElem_toArray, List.getElem_cons_zero, List.getElem_cons_succ, List.setIfInBounds_toArray, List.set_cons_zero, List.set_cons_succ]
  refine wpAnyH_ready (rs := [7]) (by kernel_rfl) (by simp) ?_
  refine AllReadyH.cons rfl (fun K hK => ?_) AllReadyH.nil
  go_simp
  go_at_call 62
  refine (list_any _ _ _ _).mono ?_
  rintro e w7 ⟨rfl, hb7⟩
  have b7 : Below w3.heap.size w3 w7 := b6.trans (hb7.mono b6.size)
  have HR7 := Lib.hid (HR6.out.below hb7)
  obtain ⟨p0, p1, p2, f0, f1, f2⟩ := HZ.out w7 b7
  clear hb7 HR6
  refine hK.out _ _ (HS.out _ b7) (fun hHeld => ?_)
  clear hK K
  try simp only [Act.put, List.getElem_toArray, List.getElem_cons_zero, List.getElem_cons_succ, List.setIfInBounds_toArray, List.set_cons_zero, List.set_cons_succ]
  refine wpAnyH_ready (rs := [8]) (by kernel_rfl) (by simp) ?_
  refine AllReadyH.cons rfl (fun K hK => ?_) AllReadyH.nil
  go_simp
  refine hK.out _ _ (⟨three_other hHeld.1 (by omega) _ _ _, three_other hHeld.2 (by omega) _ _ _⟩) (fun hHeld => ?_)
  clear hK K
  try simp only [Act.put, List.getElem_toArray, List.getElem_cons_zero, List.getElem_cons_succ, List.setIfInBounds_toArray, List.set_cons_zero, List.set_cons_succ]
  refine wpAnyH_done (by kernel_rfl) ?_ 0
  go_wp2_with fail
  refine bodyPost_ret (results_item0 rfl _ _ (w.heap.size + 1) (.bool true) (.string ⟨#[]⟩) (.slice (some ⟨w5.heap.size, 0, none⟩) 2 2) rfl ?_ ?_ ?_) rfl ?_
  · simp [go_sem, p0]
  · simp [go_sem, p1]
  · simp [go_sem, p2]
  have hb8 : Below w.heap.size w w7 := HB3.out.trans (b7.mono HB3.out.size)
  refine ⟨_, _, _, rfl, ?_, ((hb8.setCell (p := ⟨w.heap.size + 1, 0, none⟩) (Nat.le_succ _) _).setCell (p := ⟨w.heap.size + 1, 1, none⟩) (Nat.le_succ _) _).setCell (p := ⟨w.heap.size + 1, 2, none⟩) (Nat.le_succ _) _⟩
  exact RIn.mono (((HR7.out.store (g := w.heap.size + 1) (by omega) _).store (g := w.heap.size + 1) (by omega) _).store (g := w.heap.size + 1) (by omega) _) (by omega)
set_option maxRecDepth 100000 in
set_option maxHeartbeats 3200000 in
theorem ritComm_any (v : Value) (keys : List ByteArray) (s : ByteArray) (w : World) (hv : Strs w v keys) (hN : keys.length ≤ 1048576) : Calls Tryd.prog 69 #[.agg #[v, .string s]] w (GivesL w (commItems keys s)) := by
  have HV := Lib.hid hv
  obtain ⟨p, c, rfl, -⟩ := hv
  obtain ⟨n, hn⟩ : ∃ n, keys.length = n := ⟨_, rfl⟩
  rw [hn] at HV hN ⊢
  have HT := Lib.hid (fun W (h : Strs W (.slice p n c) keys) => ritTexts_any (.slice p n c) keys W h (by omega))
  clear hn
  go_enter Tryd.func69, Tryd.ntmps69
  go_wp2_with fail
  obtain ⟨w3, hw3⟩ : ∃ w3, (w.alloc (.cells #[.slice p n c, .string s] 44)).alloc (.cells #[.bool false, .string ⟨#[]⟩, .slice none 0 0] 80) = w3 := ⟨_, rfl⟩
  have hz3 : w3.heap.size = w.heap.size + 2 := by rw [← hw3]; simp
  have HB3 := Lib.hid (show Below w.heap.size w w3 from by rw [← hw3]; exact (laid1 w _).alloc (by simp) _)
  have q0 : w3.cell? ⟨w.heap.size, 0, none⟩ = some (.slice p n c) := by
    rw [← hw3]
    exact (((Below.refl (w.alloc (.cells #[.slice p n c, .string s] 44)).heap.size (w.alloc (.cells #[.slice p n c, .string s] 44))).alloc (Nat.le_refl _) (.cells #[.bool false, .string ⟨#[]⟩, .slice none 0 0] 80)).cell (p := ⟨w.heap.size, 0, none⟩) (by simp)).trans (by simp)
  have q1 : w3.cell? ⟨w.heap.size, 1, none⟩ = some (.string s) := by
    rw [← hw3]
    exact (((Below.refl (w.alloc (.cells #[.slice p n c, .string s] 44)).heap.size (w.alloc (.cells #[.slice p n c, .string s] 44))).alloc (Nat.le_refl _) (.cells #[.bool false, .string ⟨#[]⟩, .slice none 0 0] 80)).cell (p := ⟨w.heap.size, 1, none⟩) (by simp)).trans (by simp)
  have HZ := Lib.hid (fun W (hb : Below w3.heap.size w3 W) => (show _ from by
    have := zero_cells (w := w.alloc (.cells #[.slice p n c, .string s] 44)) (W := W) (by rw [hw3]; exact hb)
    rw [World.size_alloc] at this
    exact this))
  have HS := Lib.hid (fun W (hb : Below w3.heap.size w3 W) => And.intro ((hb.cell (p := ⟨w.heap.size, 0, none⟩) (by dsimp only; omega)).trans q0) ((hb.cell (p := ⟨w.heap.size, 1, none⟩) (by dsimp only; omega)).trans q1))
  rw [hw3]
  clear hw3 q0 q1
  have b3 : Below w3.heap.size w3 w3.drew := (Below.refl _ _).drew
  refine wp_region_held_drew (S := (fun W => W.cell? ⟨w.heap.size, 0, none⟩ = some (.slice p n c) ∧ W.cell? ⟨w.heap.size, 1, none⟩ = some (.string s))) (by kernel_rfl) (HS.out _ b3) (fun hHeld => ?_)
  refine wpAnyH_take (i := 0) (v := ?_) rfl (by kernel_rfl) (by kernel_rfl) (by kernel_rfl) (fun _ _ _ h => h) (.inl ⟨by rfl, ?_⟩) (by assumption) ?_
  rotate_left 1
  · intro w0 hSw
    go_simp <;> with_reducible rfl
  try simp only [Act.put, List.getElem_toArray, List.getElem_cons_zero, List.setIfInBounds_toArray, List.set_cons_zero, List.set_cons_succ]
  refine wpAnyH_take (i := 1) (v := ?_) rfl (by kernel_rfl) (by kernel_rfl) (by kernel_rfl) (fun _ _ _ h => h) (.inl ⟨by rfl, ?_⟩) (by assumption) ?_
  rotate_left 1
  · intro w0 hSw
    obtain ⟨z0, z1⟩ := hSw
    go_simp <;> with_reducible rfl
  try simp only [Act.put, List.getElem_toArray, List.getElem_cons_zero, List.getElem_cons_succ, List.setIfInBounds_toArray, List.set_cons_zero, List.set_cons_succ]
  refine wpAnyH_take (i := 3) (v := ?_) rfl (by kernel_rfl) (by kernel_rfl) (by kernel_rfl) (fun _ _ _ h => h) (.inl ⟨by rfl, ?_⟩) (by assumption) ?_
  rotate_left 1
  · intro w0 hSw
    go_simp <;> with_reducible rfl
  try simp only [Act.put, List.getElem_toArray, List.getElem_cons_zero, List.getElem_cons_succ, List.setIfInBounds_toArray, List.set_cons_zero, List.set_cons_succ]
  refine wpAnyH_take (i := 4) (v := ?_) rfl (by kernel_rfl) (by kernel_rfl) (by kernel_rfl) (fun _ _ _ h => h) (.inl ⟨by rfl, ?_⟩) (by assumption) ?_
  rotate_left 1
  · intro w0 hSw
    obtain ⟨z0, z1⟩ := hSw
    go_simp <;> with_reducible rfl
  try simp only [Act.put, List.getElem_toArray, List.getElem_cons_zero, List.getElem_cons_succ, List.setIfInBounds_toArray, List.set_cons_zero, List.set_cons_succ]
  refine wpAnyH_ready (rs := [2]) (by kernel_rfl) (by simp) ?_
  refine AllReadyH.cons rfl (fun K hK => ?_) AllReadyH.nil
  go_simp
  go_at_call 70
  refine (HT.out _ (HV.out.below (HB3.out.trans (b3.mono HB3.out.size)))).mono ?_
  rintro e w4 ⟨p4, n4, c4, rfl, hr4, hb4⟩
  have b4 : Below w3.heap.size w3 w4 := b3.trans (hb4.mono b3.size)
  have HR4 := Lib.hid (RIn.mono hr4 b3.size)
  clear hb4 hr4
  refine hK.out _ _ (HS.out _ b4) (fun hHeld => ?_)
  clear hK K
  try simp only [Act.put, List.getElem_toArray, List.getElem_cons_zero, List.getElem_cons_succ, List.setIfInBounds_toArray, List.set_cons_zero, List.set_cons_succ]
  refine wpAnyH_ready (rs := [5]) (by kernel_rfl) (by simp) ?_
  refine AllReadyH.cons rfl (fun K hK => ?_) AllReadyH.nil
  go_simp
  go_at_call 74
  refine (rtext_any s w4).mono ?_
  rintro e w5 ⟨rfl, hb5⟩
  have b5 : Below w3.heap.size w3 w5 := b4.trans (hb5.mono b4.size)
  have HR5 := Lib.hid (HR4.out.below hb5)
  clear hb5 HR4
  refine hK.out _ _ (HS.out _ b5) (fun hHeld => ?_)
  clear hK K
  try simp only [Act.put, List.getElem_toArray, List.getElem_cons_zero, List.getElem_cons_succ, List.setIfInBounds_toArray, List.set_cons_zero, List.set_cons_succ]
  refine wpAnyH_ready (rs := [6]) (by kernel_rfl) (by simp) ?_
  refine AllReadyH.cons rfl (fun K hK => ?_) AllReadyH.nil
  go_simp
  have b6 : Below w3.heap.size w3 (w5.alloc (.cells #[.bool true, .string ⟨#[]⟩, .slice p4 n4 c4, .bool false, .string s, .slice none 0 0] 80)) := b5.alloc b5.size _
  have HR6 := Lib.hid (show RIn (w5.alloc (.cells #[.bool true, .string ⟨#[]⟩, .slice p4 n4 c4, .bool false, .string s, .slice none 0 0] 80)) w3.heap.size (.slice (some ⟨w5.heap.size, 0, none⟩) 2 2) (commItems keys s) from reads_new w5 w3.heap.size 2 [(itTs keys, .slice p4 n4 c4), (itT s, .slice none 0 0)] rfl b5.size (fun q hq => by
    simp only [List.mem_cons, List.not_mem_nil, or_false] at hq
    rcases hq with rfl | rfl
    · exact HR5.out
    · exact RIn.nil _ _))
  refine hK.out _ _ (HS.out _ b6) (fun hHeld => ?_)
  clear hK K
  try simp only [Act.put, List.getElem_toArray, List.getElem_cons_zero, List.getElem_cons_succ, List.setIfInBounds_toArray, List.set_cons_zero, List.set_cons_succ]
  refine wpAnyH_ready (rs := [7]) (by kernel_rfl) (by simp) ?_
  refine AllReadyH.cons rfl (fun K hK => ?_) AllReadyH.nil
  go_simp
  go_at_call 67
  refine (rlist_any _ _ _ _).mono ?_
  rintro e w7 ⟨rfl, hb7⟩
  have b7 : Below w3.heap.size w3 w7 := b6.trans (hb7.mono b6.size)
  have HR7 := Lib.hid (HR6.out.below hb7)
  obtain ⟨p0, p1, p2, f0, f1, f2⟩ := HZ.out w7 b7
  clear hb7 HR6
  refine hK.out _ _ (HS.out _ b7) (fun hHeld => ?_)
  clear hK K
  try simp only [Act.put, List.getElem_toArray, List.getElem_cons_zero, List.getElem_cons_succ, List.setIfInBounds_toArray, List.set_cons_zero, List.set_cons_succ]
  refine wpAnyH_ready (rs := [8]) (by kernel_rfl) (by simp) ?_
  refine AllReadyH.cons rfl (fun K hK => ?_) AllReadyH.nil
  go_simp
  refine hK.out _ _ (⟨three_other hHeld.1 (by omega) _ _ _, three_other hHeld.2 (by omega) _ _ _⟩) (fun hHeld => ?_)
  clear hK K
  try simp only [Act.put, List.getElem_toArray, List.getElem_cons_zero, List.getElem_cons_succ, List.setIfInBounds_toArray, List.set_cons_zero, List.set_cons_succ]
  refine wpAnyH_done (by kernel_rfl) ?_ 0
  go_wp2_with fail
  refine bodyPost_ret (results_item0 rfl _ _ (w.heap.size + 1) (.bool true) (.string ⟨#[]⟩) (.slice (some ⟨w5.heap.size, 0, none⟩) 2 2) rfl ?_ ?_ ?_) rfl ?_
  · simp [go_sem, p0]
  · simp [go_sem, p1]
  · simp [go_sem, p2]
  have hb8 : Below w.heap.size w w7 := HB3.out.trans (b7.mono HB3.out.size)
  refine ⟨_, _, _, rfl, ?_, ((hb8.setCell (p := ⟨w.heap.size + 1, 0, none⟩) (Nat.le_succ _) _).setCell (p := ⟨w.heap.size + 1, 1, none⟩) (Nat.le_succ _) _).setCell (p := ⟨w.heap.size + 1, 2, none⟩) (Nat.le_succ _) _⟩
  exact RIn.mono (((HR7.out.store (g := w.heap.size + 1) (by omega) _).store (g := w.heap.size + 1) (by omega) _).store (g := w.heap.size + 1) (by omega) _) (by omega)
end Go.Proofs.YtfbopnebfdkhdaaDoor
/- Contract of head.light: a Light's item. -/
namespace Go.Proofs.YtfbopnebfdkhdaaDoor
open Go.RowKit Go.Shelf Go.Lib
attribute [local go_sem] Oper.semAt_some

/-- a Light's items -/
def lightItems (n m : Nat) (a b c d e : ByteArray) (k : Nat) (br : List ByteArray) : List Item := [itL [itN n, itN m, itT a, itT b, itT c], itL [itT d, itT e, itN k], itTs br]
theorem stashW {P : Program} {Q : Exit → Act → World → Prop} {c : Code} {a : Act} {W : World} (h : ∀ w4, w4 = W → c.wp P Q a w4) : c.wp P Q a W := h W rfl
set_option maxRecDepth 100000 in
set_option maxHeartbeats 6400000 in
theorem itLight_any (n m : Nat) (a b c d e : ByteArray) (k : Nat) (v : Value) (br : List ByteArray) (w : World) (hn : n < 18446744073709551616) (hm : m < 18446744073709551616) (hk : k < 18446744073709551616) (hv : Strs w v br) (hN : br.length ≤ 1048576) :
    Calls Tryd.prog 63 #[.agg #[.int .u64 n, .int .u64 m, .string a, .string b, .string c, .string d, .string e, .int .u64 k, v]] w (GivesL w (lightItems n m a b c d e k br)) := by
  have HV := Lib.hid hv
  obtain ⟨p, cp, rfl, -⟩ := hv
  obtain ⟨l, hl⟩ : ∃ l, br.length = l := ⟨_, rfl⟩
  rw [hl] at HV hN ⊢
  have HT := Lib.hid (fun W (h : Strs W (.slice p l cp) br) => itTexts_any (.slice p l cp) br W h (by omega))
  have HN := Lib.hid (fun W => itNumber_any n W hn)
  have HM := Lib.hid (fun W => itNumber_any m W hm)
  have HK := Lib.hid (fun W => itNumber_any k W hk)
  clear hl hn hm hk hN
  go_enter Tryd.func63, Tryd.ntmps63
  go_wp2_with fail
  refine wp_region_held_drew (S := (fun W => W.cell? ⟨w.heap.size, 0, none⟩ = some (.int .u64 n) ∧ W.cell? ⟨w.heap.size, 1, none⟩ = some (.int .u64 m) ∧ W.cell? ⟨w.heap.size, 2, none⟩ = some (.string a) ∧ W.cell? ⟨w.heap.size, 3, none⟩ = some (.string b) ∧ W.cell? ⟨w.heap.size, 4, none⟩ = some (.string c) ∧ W.cell? ⟨w.heap.size, 5, none⟩ = some (.string d) ∧ W.cell? ⟨w.heap.size, 6, none⟩ = some (.string e) ∧ W.cell? ⟨w.heap.size, 7, none⟩ = some (.int .u64 k) ∧ W.cell? ⟨w.heap.size, 8, none⟩ = some (.slice p l cp))) (by kernel_rfl) (by simp) (fun hHeld => ?_)
  refine wpAnyH_take (i := 0) (v := ?_) rfl (by kernel_rfl) (by kernel_rfl) (by kernel_rfl) (fun _ _ _ h => h) (.inl ⟨by rfl, ?_⟩) (by assumption) ?_
  rotate_left 1
  · intro w0 hSw
    go_simp <;> with_reducible rfl
  try simp only [Act.put, List.getElem_toArray, List.getElem_cons_zero, List.setIfInBounds_toArray, List.set_cons_zero, List.set_cons_succ]
  refine wpAnyH_take (i := 1) (v := ?_) rfl (by kernel_rfl) (by kernel_rfl) (by kernel_rfl) (fun _ _ _ h => h) (.inl ⟨by rfl, ?_⟩) (by assumption) ?_
  rotate_left 1
  · intro w0 hSw
    obtain ⟨z0, z1, z2, z3, z4, z5, z6, z7, z8⟩ := hSw
    go_simp <;> with_reducible rfl
  try simp only [Act.put, List.getElem_toArray, List.getElem_cons_zero, List.getElem_cons_succ, List.setIfInBounds_toArray, List.set_cons_zero, List.set_cons_succ]
  refine wpAnyH_take (i := 2) (v := ?_) rfl (by kernel_rfl) (by kernel_rfl) (by kernel_rfl) (fun _ _ _ h => h) (.inl ⟨by rfl, ?_⟩) (by assumption) ?_
  rotate_left 1
  · intro w0 hSw
    go_simp <;> with_reducible rfl
  try simp only [Act.put, List.getElem_toArray, List.getElem_cons_zero, List.getElem_cons_succ, List.setIfInBounds_toArray, List.set_cons_zero, List.set_cons_succ]
  refine wpAnyH_take (i := 3) (v := ?_) rfl (by kernel_rfl) (by kernel_rfl) (by kernel_rfl) (fun _ _ _ h => h) (.inl ⟨by rfl, ?_⟩) (by assumption) ?_
  rotate_left 1
  · intro w0 hSw
    obtain ⟨z0, z1, z2, z3, z4, z5, z6, z7, z8⟩ := hSw
    go_simp <;> with_reducible rfl
  try simp only [Act.put, List.getElem_toArray, List.getElem_cons_zero, List.getElem_cons_succ, List.setIfInBounds_toArray, List.set_cons_zero, List.set_cons_succ]
  refine wpAnyH_ready (rs := [4, 5]) (by kernel_rfl) (by simp) ?_
  refine AllReadyH.cons rfl (fun K hK => ?_) (AllReadyH.cons rfl (fun K hK => ?_) AllReadyH.nil)
  · go_simp
    refine hK.out _ _ (by simp [go_sem]) (fun hHeld => ?_)
    clear hK K
    try simp only [Act.put, List.getElem_toArray, List.getElem_cons_zero, List.getElem_cons_succ, List.setIfInBounds_toArray, List.set_cons_zero, List.set_cons_succ]
    refine wpAnyH_ready (rs := [5]) (by kernel_rfl) (by simp) ?_
    refine AllReadyH.cons rfl (fun K hK => ?_) AllReadyH.nil
    go_simp
    refine hK.out _ _ (by simp [go_sem]) (fun hHeld => ?_)
    clear hK K
    try simp only [Act.put, List.getElem_toArray, List.getElem_cons_zero, List.getElem_cons_succ, List.setIfInBounds_toArray, List.set_cons_zero, List.set_cons_succ]
    refine wpAnyH_ready (rs := [6]) (by kernel_rfl) (by simp) ?_
    refine AllReadyH.cons rfl (fun K hK => ?_) AllReadyH.nil
    go_simp
    refine hK.out _ _ (by simp [go_sem]) (fun hHeld => ?_)
    clear hK K
    try simp only [Act.put, List.getElem_toArray, List.getElem_cons_zero, List.getElem_cons_succ, List.setIfInBounds_toArray, List.set_cons_zero, List.set_cons_succ]
    refine wpAnyH_ready (rs := [7]) (by kernel_rfl) (by simp) ?_
    refine AllReadyH.cons rfl (fun K hK => ?_) AllReadyH.nil
    go_simp
    refine hK.out _ _ (by simp [go_sem]) (fun hHeld => ?_)
    clear hK K
    try simp only [Act.put, List.getElem_toArray, List.getElem_cons_zero, List.getElem_cons_succ, List.setIfInBounds_toArray, List.set_cons_zero, List.set_cons_succ]
    refine wpAnyH_done (by kernel_rfl) ?_ 0
    clear hHeld
    go_wp2_with fail
    refine stashW (fun w4 hw4 => ?_)
    have HB4 := Lib.hid (show Below w.heap.size w w4 from by
      rw [hw4]
      repeat' (first | exact Below.refl _ _ | refine Below.drew ?_ | refine Below.setCell ?_ (show w.heap.size ≤ _ from by simp) _ | refine Below.alloc ?_ (by simp <;> omega) _))
    have hz4 : w4.heap.size = w.heap.size + 4 := by rw [hw4]; simp
    have q0 : w4.cell? ⟨w.heap.size + 2, 0, none⟩ = some (.int .u64 n) := by rw [hw4]; simp [go_sem]
    have q1 : w4.cell? ⟨w.heap.size + 2, 1, none⟩ = some (.int .u64 m) := by rw [hw4]; simp [go_sem]
    have q2 : w4.cell? ⟨w.heap.size + 2, 2, none⟩ = some (.string a) := by rw [hw4]; simp [go_sem]
    have q3 : w4.cell? ⟨w.heap.size + 2, 3, none⟩ = some (.string b) := by rw [hw4]; simp [go_sem]
    have q4 : w4.cell? ⟨w.heap.size + 2, 4, none⟩ = some (.string c) := by rw [hw4]; simp [go_sem]
    have q5 : w4.cell? ⟨w.heap.size + 3, 0, none⟩ = some (.string d) := by rw [hw4]; simp [go_sem]
    have q6 : w4.cell? ⟨w.heap.size + 3, 1, none⟩ = some (.string e) := by rw [hw4]; simp [go_sem]
    have q7 : w4.cell? ⟨w.heap.size + 3, 2, none⟩ = some (.int .u64 k) := by rw [hw4]; simp [go_sem]
    have q8 : w4.cell? ⟨w.heap.size, 8, none⟩ = some (.slice p l cp) := by rw [hw4]; simp [go_sem]
    have HZ := Lib.hid (show (w4.cell? ⟨w.heap.size + 1, 0, none⟩ = some (.bool false) ∧ w4.cell? ⟨w.heap.size + 1, 1, none⟩ = some (.string ⟨#[]⟩) ∧ w4.cell? ⟨w.heap.size + 1, 2, none⟩ = some (.slice none 0 0)) ∧ (∀ j, w4.frozen? ⟨w.heap.size + 1, j, none⟩ = false) from by
      rw [hw4]
      refine ⟨⟨by simp [go_sem], by simp [go_sem], by simp [go_sem]⟩, fun j => by simp [go_sem]⟩)
    have HS := Lib.hid (fun W (hb : Below w4.heap.size w4 W) => (show W.cell? ⟨w.heap.size + 2, 0, none⟩ = some (.int .u64 n) ∧ W.cell? ⟨w.heap.size + 2, 1, none⟩ = some (.int .u64 m) ∧ W.cell? ⟨w.heap.size + 2, 2, none⟩ = some (.string a) ∧ W.cell? ⟨w.heap.size + 2, 3, none⟩ = some (.string b) ∧ W.cell? ⟨w.heap.size + 2, 4, none⟩ = some (.string c) ∧ W.cell? ⟨w.heap.size + 3, 0, none⟩ = some (.string d) ∧ W.cell? ⟨w.heap.size + 3, 1, none⟩ = some (.string e) ∧ W.cell? ⟨w.heap.size + 3, 2, none⟩ = some (.int .u64 k) ∧ W.cell? ⟨w.heap.size, 8, none⟩ = some (.slice p l cp) from ⟨(hb.cell (p := ⟨w.heap.size + 2, 0, none⟩) (by dsimp only; omega)).trans q0, (hb.cell (p := ⟨w.heap.size + 2, 1, none⟩) (by dsimp only; omega)).trans q1, (hb.cell (p := ⟨w.heap.size + 2, 2, none⟩) (by dsimp only; omega)).trans q2, (hb.cell (p := ⟨w.heap.size + 2, 3, none⟩) (by dsimp only; omega)).trans q3, (hb.cell (p := ⟨w.heap.size + 2, 4, none⟩) (by dsimp only; omega)).trans q4, (hb.cell (p := ⟨w.heap.size + 3, 0, none⟩) (by dsimp only; omega)).trans q5, (hb.cell (p := ⟨w.heap.size + 3, 1, none⟩) (by dsimp only; omega)).trans q6, (hb.cell (p := ⟨w.heap.size + 3, 2, none⟩) (by dsimp only; omega)).trans q7, (hb.cell (p := ⟨w.heap.size, 8, none⟩) (by dsimp only; omega)).trans q8⟩))
    clear hw4 q0 q1 q2 q3 q4 q5 q6 q7 q8
    have b4 : Below w4.heap.size w4 w4.drew := (Below.refl _ _).drew
    refine wp_region_held_drew (S := (fun W => W.cell? ⟨w.heap.size + 2, 0, none⟩ = some (.int .u64 n) ∧ W.cell? ⟨w.heap.size + 2, 1, none⟩ = some (.int .u64 m) ∧ W.cell? ⟨w.heap.size + 2, 2, none⟩ = some (.string a) ∧ W.cell? ⟨w.heap.size + 2, 3, none⟩ = some (.string b) ∧ W.cell? ⟨w.heap.size + 2, 4, none⟩ = some (.string c) ∧ W.cell? ⟨w.heap.size + 3, 0, none⟩ = some (.string d) ∧ W.cell? ⟨w.heap.size + 3, 1, none⟩ = some (.string e) ∧ W.cell? ⟨w.heap.size + 3, 2, none⟩ = some (.int .u64 k) ∧ W.cell? ⟨w.heap.size, 8, none⟩ = some (.slice p l cp))) (by kernel_rfl) (HS.out _ b4) (fun hHeld => ?_)
    refine wpAnyH_take (i := 0) (v := ?_) rfl (by kernel_rfl) (by kernel_rfl) (by kernel_rfl) (fun _ _ _ h => h) (.inl ⟨by rfl, ?_⟩) (by assumption) ?_
    rotate_left 1
    · intro w0 hSw
      go_simp <;> with_reducible rfl
    try simp only [Act.put, List.getElem_toArray, List.getElem_cons_zero, List.setIfInBounds_toArray, List.set_cons_zero, List.set_cons_succ]
    refine wpAnyH_take (i := 1) (v := ?_) rfl (by kernel_rfl) (by kernel_rfl) (by kernel_rfl) (fun _ _ _ h => h) (.inl ⟨by rfl, ?_⟩) (by assumption) ?_
    rotate_left 1
    · intro w0 hSw
      obtain ⟨z0, z1, z2, z3, z4, z5, z6, z7, z8⟩ := hSw
      go_simp <;> with_reducible rfl
    try simp only [Act.put, List.getElem_toArray, List.getElem_cons_zero, List.getElem_cons_succ, List.setIfInBounds_toArray, List.set_cons_zero, List.set_cons_succ]
    refine wpAnyH_take (i := 3) (v := ?_) rfl (by kernel_rfl) (by kernel_rfl) (by kernel_rfl) (fun _ _ _ h => h) (.inl ⟨by rfl, ?_⟩) (by assumption) ?_
    rotate_left 1
    · intro w0 hSw
      go_simp <;> with_reducible rfl
    try simp only [Act.put, List.getElem_toArray, List.getElem_cons_zero, List.getElem_cons_succ, List.setIfInBounds_toArray, List.set_cons_zero, List.set_cons_succ]
    refine wpAnyH_take (i := 4) (v := ?_) rfl (by kernel_rfl) (by kernel_rfl) (by kernel_rfl) (fun _ _ _ h => h) (.inl ⟨by rfl, ?_⟩) (by assumption) ?_
    rotate_left 1
    · intro w0 hSw
      obtain ⟨z0, z1, z2, z3, z4, z5, z6, z7, z8⟩ := hSw
      go_simp <;> with_reducible rfl
    try simp only [Act.put, List.getElem_toArray, List.getElem_cons_zero, List.getElem_cons_succ, List.setIfInBounds_toArray, List.set_cons_zero, List.set_cons_succ]
    refine wpAnyH_take (i := 6) (v := ?_) rfl (by kernel_rfl) (by kernel_rfl) (by kernel_rfl) (fun _ _ _ h => h) (.inl ⟨by rfl, ?_⟩) (by assumption) ?_
    rotate_left 1
    · intro w0 hSw
      go_simp <;> with_reducible rfl
    try simp only [Act.put, List.getElem_toArray, List.getElem_cons_zero, List.getElem_cons_succ, List.setIfInBounds_toArray, List.set_cons_zero, List.set_cons_succ]
    refine wpAnyH_take (i := 7) (v := ?_) rfl (by kernel_rfl) (by kernel_rfl) (by kernel_rfl) (fun _ _ _ h => h) (.inl ⟨by rfl, ?_⟩) (by assumption) ?_
    rotate_left 1
    · intro w0 hSw
      obtain ⟨z0, z1, z2, z3, z4, z5, z6, z7, z8⟩ := hSw
      go_simp <;> with_reducible rfl
    try simp only [Act.put, List.getElem_toArray, List.getElem_cons_zero, List.getElem_cons_succ, List.setIfInBounds_toArray, List.set_cons_zero, List.set_cons_succ]
    refine wpAnyH_take (i := 9) (v := ?_) rfl (by kernel_rfl) (by kernel_rfl) (by kernel_rfl) (fun _ _ _ h => h) (.inl ⟨by rfl, ?_⟩) (by assumption) ?_
    rotate_left 1
    · intro w0 hSw
      go_simp <;> with_reducible rfl
    try simp only [Act.put, List.getElem_toArray, List.getElem_cons_zero, List.getElem_cons_succ, List.setIfInBounds_toArray, List.set_cons_zero, List.set_cons_succ]
    refine wpAnyH_take (i := 10) (v := ?_) rfl (by kernel_rfl) (by kernel_rfl) (by kernel_rfl) (fun _ _ _ h => h) (.inl ⟨by rfl, ?_⟩) (by assumption) ?_
    rotate_left 1
    · intro w0 hSw
      obtain ⟨z0, z1, z2, z3, z4, z5, z6, z7, z8⟩ := hSw
      go_simp <;> with_reducible rfl
    try simp only [Act.put, List.getElem_toArray, List.getElem_cons_zero, List.getElem_cons_succ, List.setIfInBounds_toArray, List.set_cons_zero, List.set_cons_succ]
    refine wpAnyH_take (i := 12) (v := ?_) rfl (by kernel_rfl) (by kernel_rfl) (by kernel_rfl) (fun _ _ _ h => h) (.inl ⟨by rfl, ?_⟩) (by assumption) ?_
    rotate_left 1
    · intro w0 hSw
      go_simp <;> with_reducible rfl
    try simp only [Act.put, List.getElem_toArray, List.getElem_cons_zero, List.getElem_cons_succ, List.setIfInBounds_toArray, List.set_cons_zero, List.set_cons_succ]
    refine wpAnyH_take (i := 13) (v := ?_) rfl (by kernel_rfl) (by kernel_rfl) (by kernel_rfl) (fun _ _ _ h => h) (.inl ⟨by rfl, ?_⟩) (by assumption) ?_
    rotate_left 1
    · intro w0 hSw
      obtain ⟨z0, z1, z2, z3, z4, z5, z6, z7, z8⟩ := hSw
      go_simp <;> with_reducible rfl
    try simp only [Act.put, List.getElem_toArray, List.getElem_cons_zero, List.getElem_cons_succ, List.setIfInBounds_toArray, List.set_cons_zero, List.set_cons_succ]
    refine wpAnyH_take (i := 17) (v := ?_) rfl (by kernel_rfl) (by kernel_rfl) (by kernel_rfl) (fun _ _ _ h => h) (.inl ⟨by rfl, ?_⟩) (by assumption) ?_
    rotate_left 1
    · intro w0 hSw
      go_simp <;> with_reducible rfl
    try simp only [Act.put, List.getElem_toArray, List.getElem_cons_zero, List.getElem_cons_succ, List.setIfInBounds_toArray, List.set_cons_zero, List.set_cons_succ]
    refine wpAnyH_take (i := 18) (v := ?_) rfl (by kernel_rfl) (by kernel_rfl) (by kernel_rfl) (fun _ _ _ h => h) (.inl ⟨by rfl, ?_⟩) (by assumption) ?_
    rotate_left 1
    · intro w0 hSw
      obtain ⟨z0, z1, z2, z3, z4, z5, z6, z7, z8⟩ := hSw
      go_simp <;> with_reducible rfl
    try simp only [Act.put, List.getElem_toArray, List.getElem_cons_zero, List.getElem_cons_succ, List.setIfInBounds_toArray, List.set_cons_zero, List.set_cons_succ]
    refine wpAnyH_take (i := 20) (v := ?_) rfl (by kernel_rfl) (by kernel_rfl) (by kernel_rfl) (fun _ _ _ h => h) (.inl ⟨by rfl, ?_⟩) (by assumption) ?_
    rotate_left 1
    · intro w0 hSw
      go_simp <;> with_reducible rfl
    try simp only [Act.put, List.getElem_toArray, List.getElem_cons_zero, List.getElem_cons_succ, List.setIfInBounds_toArray, List.set_cons_zero, List.set_cons_succ]
    refine wpAnyH_take (i := 21) (v := ?_) rfl (by kernel_rfl) (by kernel_rfl) (by kernel_rfl) (fun _ _ _ h => h) (.inl ⟨by rfl, ?_⟩) (by assumption) ?_
    rotate_left 1
    · intro w0 hSw
      obtain ⟨z0, z1, z2, z3, z4, z5, z6, z7, z8⟩ := hSw
      go_simp <;> with_reducible rfl
    try simp only [Act.put, List.getElem_toArray, List.getElem_cons_zero, List.getElem_cons_succ, List.setIfInBounds_toArray, List.set_cons_zero, List.set_cons_succ]
    refine wpAnyH_take (i := 23) (v := ?_) rfl (by kernel_rfl) (by kernel_rfl) (by kernel_rfl) (fun _ _ _ h => h) (.inl ⟨by rfl, ?_⟩) (by assumption) ?_
    rotate_left 1
    · intro w0 hSw
      go_simp <;> with_reducible rfl
    try simp only [Act.put, List.getElem_toArray, List.getElem_cons_zero, List.getElem_cons_succ, List.setIfInBounds_toArray, List.set_cons_zero, List.set_cons_succ]
    refine wpAnyH_take (i := 24) (v := ?_) rfl (by kernel_rfl) (by kernel_rfl) (by kernel_rfl) (fun _ _ _ h => h) (.inl ⟨by rfl, ?_⟩) (by assumption) ?_
    rotate_left 1
    · intro w0 hSw
      obtain ⟨z0, z1, z2, z3, z4, z5, z6, z7, z8⟩ := hSw
      go_simp <;> with_reducible rfl
    try simp only [Act.put, List.getElem_toArray, List.getElem_cons_zero, List.getElem_cons_succ, List.setIfInBounds_toArray, List.set_cons_zero, List.set_cons_succ]
    refine wpAnyH_take (i := 28) (v := ?_) rfl (by kernel_rfl) (by kernel_rfl) (by kernel_rfl) (fun _ _ _ h => h) (.inl ⟨by rfl, ?_⟩) (by assumption) ?_
    rotate_left 1
    · intro w0 hSw
      go_simp <;> with_reducible rfl
    try simp only [Act.put, List.getElem_toArray, List.getElem_cons_zero, List.getElem_cons_succ, List.setIfInBounds_toArray, List.set_cons_zero, List.set_cons_succ]
    refine wpAnyH_take (i := 29) (v := ?_) rfl (by kernel_rfl) (by kernel_rfl) (by kernel_rfl) (fun _ _ _ h => h) (.inl ⟨by rfl, ?_⟩) (by assumption) ?_
    rotate_left 1
    · intro w0 hSw
      obtain ⟨z0, z1, z2, z3, z4, z5, z6, z7, z8⟩ := hSw
      go_simp <;> with_reducible rfl
    try simp only [Act.put, List.getElem_toArray, List.getElem_cons_zero, List.getElem_cons_succ, List.setIfInBounds_toArray, List.set_cons_zero, List.set_cons_succ]
    refine wpAnyH_ready (rs := [2]) (by kernel_rfl) (by simp) ?_
    refine AllReadyH.cons rfl (fun K hK => ?_) AllReadyH.nil
    go_simp
    go_at_call 71
    refine (HN.out _).mono ?_
    rintro z w5 ⟨rfl, hb5⟩
    have b5 : Below w4.heap.size w4 w5 := b4.trans (hb5.mono b4.size)
    clear hb5
    refine hK.out _ _ (HS.out _ b5) (fun hHeld => ?_)
    clear hK K
    try simp only [Act.put, List.getElem_toArray, List.getElem_cons_zero, List.getElem_cons_succ, List.setIfInBounds_toArray, List.set_cons_zero, List.set_cons_succ]
    refine wpAnyH_ready (rs := [5]) (by kernel_rfl) (by simp) ?_
    refine AllReadyH.cons rfl (fun K hK => ?_) AllReadyH.nil
    go_simp
    go_at_call 71
    refine (HM.out _).mono ?_
    rintro z w6 ⟨rfl, hb6⟩
    have b6 : Below w4.heap.size w4 w6 := b5.trans (hb6.mono b5.size)
    clear hb6
    refine hK.out _ _ (HS.out _ b6) (fun hHeld => ?_)
    clear hK K
    try simp only [Act.put, List.getElem_toArray, List.getElem_cons_zero, List.getElem_cons_succ, List.setIfInBounds_toArray, List.set_cons_zero, List.set_cons_succ]
    refine wpAnyH_ready (rs := [8]) (by kernel_rfl) (by simp) ?_
    refine AllReadyH.cons rfl (fun K hK => ?_) AllReadyH.nil
    go_simp
    go_at_call 72
    refine (text_any a _).mono ?_
    rintro z w7 ⟨rfl, hb7⟩
    have b7 : Below w4.heap.size w4 w7 := b6.trans (hb7.mono b6.size)
    clear hb7
    refine hK.out _ _ (HS.out _ b7) (fun hHeld => ?_)
    clear hK K
    try simp only [Act.put, List.getElem_toArray, List.getElem_cons_zero, List.getElem_cons_succ, List.setIfInBounds_toArray, List.set_cons_zero, List.set_cons_succ]
    refine wpAnyH_ready (rs := [11]) (by kernel_rfl) (by simp) ?_
    refine AllReadyH.cons rfl (fun K hK => ?_) AllReadyH.nil
    go_simp
    go_at_call 72
    refine (text_any b _).mono ?_
    rintro z w8 ⟨rfl, hb8⟩
    have b8 : Below w4.heap.size w4 w8 := b7.trans (hb8.mono b7.size)
    clear hb8
    refine hK.out _ _ (HS.out _ b8) (fun hHeld => ?_)
    clear hK K
    try simp only [Act.put, List.getElem_toArray, List.getElem_cons_zero, List.getElem_cons_succ, List.setIfInBounds_toArray, List.set_cons_zero, List.set_cons_succ]
    refine wpAnyH_ready (rs := [14]) (by kernel_rfl) (by simp) ?_
    refine AllReadyH.cons rfl (fun K hK => ?_) AllReadyH.nil
    go_simp
    go_at_call 72
    refine (text_any c _).mono ?_
    rintro z w9 ⟨rfl, hb9⟩
    have b9 : Below w4.heap.size w4 w9 := b8.trans (hb9.mono b8.size)
    clear hb9
    refine hK.out _ _ (HS.out _ b9) (fun hHeld => ?_)
    clear hK K
    try simp only [Act.put, List.getElem_toArray, List.getElem_cons_zero, List.getElem_cons_succ, List.setIfInBounds_toArray, List.set_cons_zero, List.set_cons_succ]
    refine wpAnyH_ready (rs := [15]) (by kernel_rfl) (by simp) ?_
    refine AllReadyH.cons rfl (fun K hK => ?_) AllReadyH.nil
    go_simp
    have hal : ∃ W, w9.alloc (.cells #[.bool false, .string ⟨(num n).toArray⟩, .slice none 0 0, .bool false, .string ⟨(num m).toArray⟩, .slice none 0 0, .bool false, .string a, .slice none 0 0, .bool false, .string b, .slice none 0 0, .bool false, .string c, .slice none 0 0] 80) = W := ⟨_, rfl⟩
    obtain ⟨w10, hal⟩ := hal
    have hb10 : Below w9.heap.size w9 w10 := by rw [← hal]; exact (Below.refl _ _).alloc (Nat.le_refl _) _
    have b10 : Below w4.heap.size w4 w10 := b9.trans (hb10.mono b9.size)
    have HA_10 := Lib.hid (show RIn w10 w4.heap.size (.slice (some ⟨w9.heap.size, 0, none⟩) 5 5) [itN n, itN m, itT a, itT b, itT c] from by
      rw [← hal]
      refine reads_new w9 w4.heap.size 5 [(itN n, .slice none 0 0), (itN m, .slice none 0 0), (itT a, .slice none 0 0), (itT b, .slice none 0 0), (itT c, .slice none 0 0)] rfl b9.size (fun q hq => ?_)
      simp only [List.mem_cons, List.not_mem_nil, or_false] at hq
      rcases hq with rfl | rfl | rfl | rfl | rfl
      · exact RIn.nil _ _
      · exact RIn.nil _ _
      · exact RIn.nil _ _
      · exact RIn.nil _ _
      · exact RIn.nil _ _)
    rw [hal]
    clear hal hb10 
    refine hK.out _ _ (HS.out _ b10) (fun hHeld => ?_)
    clear hK K
    try simp only [Act.put, List.getElem_toArray, List.getElem_cons_zero, List.getElem_cons_succ, List.setIfInBounds_toArray, List.set_cons_zero, List.set_cons_succ]
    refine wpAnyH_ready (rs := [16]) (by kernel_rfl) (by simp) ?_
    refine AllReadyH.cons rfl (fun K hK => ?_) AllReadyH.nil
    go_simp
    go_at_call 62
    refine (list_any _ _ _ _).mono ?_
    rintro z w11 ⟨rfl, hb11⟩
    have b11 : Below w4.heap.size w4 w11 := b10.trans (hb11.mono b10.size)
    have HA_11 := Lib.hid (HA_10.out.below hb11)
    clear HA_10
    clear hb11
    refine hK.out _ _ (HS.out _ b11) (fun hHeld => ?_)
    clear hK K
    try simp only [Act.put, List.getElem_toArray, List.getElem_cons_zero, List.getElem_cons_succ, List.setIfInBounds_toArray, List.set_cons_zero, List.set_cons_succ]
    refine wpAnyH_ready (rs := [19]) (by kernel_rfl) (by simp) ?_
    refine AllReadyH.cons rfl (fun K hK => ?_) AllReadyH.nil
    go_simp
    go_at_call 72
    refine (text_any d _).mono ?_
    rintro z w12 ⟨rfl, hb12⟩
    have b12 : Below w4.heap.size w4 w12 := b11.trans (hb12.mono b11.size)
    have HA_12 := Lib.hid (HA_11.out.below hb12)
    clear HA_11
    clear hb12
    refine hK.out _ _ (HS.out _ b12) (fun hHeld => ?_)
    clear hK K
    try simp only [Act.put, List.getElem_toArray, List.getElem_cons_zero, List.getElem_cons_succ, List.setIfInBounds_toArray, List.set_cons_zero, List.set_cons_succ]
    refine wpAnyH_ready (rs := [22]) (by kernel_rfl) (by simp) ?_
    refine AllReadyH.cons rfl (fun K hK => ?_) AllReadyH.nil
    go_simp
    go_at_call 72
    refine (text_any e _).mono ?_
    rintro z w13 ⟨rfl, hb13⟩
    have b13 : Below w4.heap.size w4 w13 := b12.trans (hb13.mono b12.size)
    have HA_13 := Lib.hid (HA_12.out.below hb13)
    clear HA_12
    clear hb13
    refine hK.out _ _ (HS.out _ b13) (fun hHeld => ?_)
    clear hK K
    try simp only [Act.put, List.getElem_toArray, List.getElem_cons_zero, List.getElem_cons_succ, List.setIfInBounds_toArray, List.set_cons_zero, List.set_cons_succ]
    refine wpAnyH_ready (rs := [25]) (by kernel_rfl) (by simp) ?_
    refine AllReadyH.cons rfl (fun K hK => ?_) AllReadyH.nil
    go_simp
    go_at_call 71
    refine (HK.out _).mono ?_
    rintro z w14 ⟨rfl, hb14⟩
    have b14 : Below w4.heap.size w4 w14 := b13.trans (hb14.mono b13.size)
    have HA_14 := Lib.hid (HA_13.out.below hb14)
    clear HA_13
    clear hb14
    refine hK.out _ _ (HS.out _ b14) (fun hHeld => ?_)
    clear hK K
    try simp only [Act.put, List.getElem_toArray, List.getElem_cons_zero, List.getElem_cons_succ, List.setIfInBounds_toArray, List.set_cons_zero, List.set_cons_succ]
    refine wpAnyH_ready (rs := [26]) (by kernel_rfl) (by simp) ?_
    refine AllReadyH.cons rfl (fun K hK => ?_) AllReadyH.nil
    go_simp
    have hal : ∃ W, w14.alloc (.cells #[.bool false, .string d, .slice none 0 0, .bool false, .string e, .slice none 0 0, .bool false, .string ⟨(num k).toArray⟩, .slice none 0 0] 80) = W := ⟨_, rfl⟩
    obtain ⟨w15, hal⟩ := hal
    have hb15 : Below w14.heap.size w14 w15 := by rw [← hal]; exact (Below.refl _ _).alloc (Nat.le_refl _) _
    have b15 : Below w4.heap.size w4 w15 := b14.trans (hb15.mono b14.size)
    have HX_15 := Lib.hid (show RIn w15 w4.heap.size (.slice (some ⟨w14.heap.size, 0, none⟩) 3 3) [itT d, itT e, itN k] from by
      rw [← hal]
      refine reads_new w14 w4.heap.size 3 [(itT d, .slice none 0 0), (itT e, .slice none 0 0), (itN k, .slice none 0 0)] rfl b14.size (fun q hq => ?_)
      simp only [List.mem_cons, List.not_mem_nil, or_false] at hq
      rcases hq with rfl | rfl | rfl
      · exact RIn.nil _ _
      · exact RIn.nil _ _
      · exact RIn.nil _ _)
    have HA_15 := Lib.hid (HA_14.out.below hb15)
    rw [hal]
    clear hal hb15 HA_14
    refine hK.out _ _ (HS.out _ b15) (fun hHeld => ?_)
    clear hK K
    try simp only [Act.put, List.getElem_toArray, List.getElem_cons_zero, List.getElem_cons_succ, List.setIfInBounds_toArray, List.set_cons_zero, List.set_cons_succ]
    refine wpAnyH_ready (rs := [27]) (by kernel_rfl) (by simp) ?_
    refine AllReadyH.cons rfl (fun K hK => ?_) AllReadyH.nil
    go_simp
    go_at_call 62
    refine (list_any _ _ _ _).mono ?_
    rintro z w16 ⟨rfl, hb16⟩
    have b16 : Below w4.heap.size w4 w16 := b15.trans (hb16.mono b15.size)
    have HA_16 := Lib.hid (HA_15.out.below hb16)
    have HX_16 := Lib.hid (HX_15.out.below hb16)
    clear HA_15 HX_15
    clear hb16
    refine hK.out _ _ (HS.out _ b16) (fun hHeld => ?_)
    clear hK K
    try simp only [Act.put, List.getElem_toArray, List.getElem_cons_zero, List.getElem_cons_succ, List.setIfInBounds_toArray, List.set_cons_zero, List.set_cons_succ]
    refine wpAnyH_ready (rs := [30]) (by kernel_rfl) (by simp) ?_
    refine AllReadyH.cons rfl (fun K hK => ?_) AllReadyH.nil
    go_simp
    go_at_call 65
    refine (HT.out _ (HV.out.below (HB4.out.trans (b16.mono HB4.out.size)))).mono ?_
    rintro z w17 ⟨pt, nt, ct, rfl, hrt, hb17⟩
    have b17 : Below w4.heap.size w4 w17 := b16.trans (hb17.mono b16.size)
    have HA_17 := Lib.hid (HA_16.out.below hb17)
    have HX_17 := Lib.hid (HX_16.out.below hb17)
    clear HA_16 HX_16
    have HT2_17 := Lib.hid (RIn.mono hrt b16.size)
    clear hrt
    clear hb17
    refine hK.out _ _ (HS.out _ b17) (fun hHeld => ?_)
    clear hK K
    try simp only [Act.put, List.getElem_toArray, List.getElem_cons_zero, List.getElem_cons_succ, List.setIfInBounds_toArray, List.set_cons_zero, List.set_cons_succ]
    refine wpAnyH_ready (rs := [31]) (by kernel_rfl) (by simp) ?_
    refine AllReadyH.cons rfl (fun K hK => ?_) AllReadyH.nil
    go_simp
    have hal : ∃ W, w17.alloc (.cells #[.bool true, .string ⟨#[]⟩, .slice (some ⟨w9.heap.size, 0, none⟩) 5 5, .bool true, .string ⟨#[]⟩, .slice (some ⟨w14.heap.size, 0, none⟩) 3 3, .bool true, .string ⟨#[]⟩, .slice pt nt ct] 80) = W := ⟨_, rfl⟩
    obtain ⟨w18, hal⟩ := hal
    have hb18 : Below w17.heap.size w17 w18 := by rw [← hal]; exact (Below.refl _ _).alloc (Nat.le_refl _) _
    have b18 : Below w4.heap.size w4 w18 := b17.trans (hb18.mono b17.size)
    have HL_18 := Lib.hid (show RIn w18 w4.heap.size (.slice (some ⟨w17.heap.size, 0, none⟩) 3 3) [itL [itN n, itN m, itT a, itT b, itT c], itL [itT d, itT e, itN k], itTs br] from by
      rw [← hal]
      refine reads_new w17 w4.heap.size 3 [(itL [itN n, itN m, itT a, itT b, itT c], .slice (some ⟨w9.heap.size, 0, none⟩) 5 5), (itL [itT d, itT e, itN k], .slice (some ⟨w14.heap.size, 0, none⟩) 3 3), (itTs br, .slice pt nt ct)] rfl b17.size (fun q hq => ?_)
      simp only [List.mem_cons, List.not_mem_nil, or_false] at hq
      rcases hq with rfl | rfl | rfl
      · exact HA_17.out
      · exact HX_17.out
      · exact HT2_17.out)
    rw [hal]
    clear hal hb18 HA_17 HX_17 HT2_17
    refine hK.out _ _ (HS.out _ b18) (fun hHeld => ?_)
    clear hK K
    try simp only [Act.put, List.getElem_toArray, List.getElem_cons_zero, List.getElem_cons_succ, List.setIfInBounds_toArray, List.set_cons_zero, List.set_cons_succ]
    refine wpAnyH_ready (rs := [32]) (by kernel_rfl) (by simp) ?_
    refine AllReadyH.cons rfl (fun K hK => ?_) AllReadyH.nil
    go_simp
    go_at_call 62
    refine (list_any _ _ _ _).mono ?_
    rintro z w19 ⟨rfl, hb19⟩
    have b19 : Below w4.heap.size w4 w19 := b18.trans (hb19.mono b18.size)
    have HL_19 := Lib.hid (HL_18.out.below hb19)
    clear HL_18
    clear hb19
    refine hK.out _ _ (HS.out _ b19) (fun hHeld => ?_)
    clear hK K
    try simp only [Act.put, List.getElem_toArray, List.getElem_cons_zero, List.getElem_cons_succ, List.setIfInBounds_toArray, List.set_cons_zero, List.set_cons_succ]
    obtain ⟨⟨y0, y1, y2⟩, yf⟩ := HZ.out
    have p0 := (b19.cell (p := ⟨w.heap.size + 1, 0, none⟩) (by dsimp only; omega)).trans y0
    have p1 := (b19.cell (p := ⟨w.heap.size + 1, 1, none⟩) (by dsimp only; omega)).trans y1
    have p2 := (b19.cell (p := ⟨w.heap.size + 1, 2, none⟩) (by dsimp only; omega)).trans y2
    have f0 := (b19.frozen (p := ⟨w.heap.size + 1, 0, none⟩) (by dsimp only; omega)).trans (yf 0)
    have f1 := (b19.frozen (p := ⟨w.heap.size + 1, 1, none⟩) (by dsimp only; omega)).trans (yf 1)
    have f2 := (b19.frozen (p := ⟨w.heap.size + 1, 2, none⟩) (by dsimp only; omega)).trans (yf 2)
    clear y0 y1 y2 yf
    refine wpAnyH_ready (rs := [33]) (by kernel_rfl) (by simp) ?_
    refine AllReadyH.cons rfl (fun K hK => ?_) AllReadyH.nil
    go_simp
    refine hK.out _ _ (⟨three_other hHeld.1 (by omega) _ _ _, three_other hHeld.2.1 (by omega) _ _ _, three_other hHeld.2.2.1 (by omega) _ _ _, three_other hHeld.2.2.2.1 (by omega) _ _ _, three_other hHeld.2.2.2.2.1 (by omega) _ _ _, three_other hHeld.2.2.2.2.2.1 (by omega) _ _ _, three_other hHeld.2.2.2.2.2.2.1 (by omega) _ _ _, three_other hHeld.2.2.2.2.2.2.2.1 (by omega) _ _ _, three_other hHeld.2.2.2.2.2.2.2.2 (by omega) _ _ _⟩) (fun hHeld => ?_)
    clear hK K
    try simp only [Act.put, List.getElem_toArray, List.getElem_cons_zero, List.getElem_cons_succ, List.setIfInBounds_toArray, List.set_cons_zero, List.set_cons_succ]
    refine wpAnyH_done (by kernel_rfl) ?_ 0
    go_wp2_with fail
    refine bodyPost_ret (results_item0 rfl _ _ (w.heap.size + 1) (.bool true) (.string ⟨#[]⟩) (.slice (some ⟨w17.heap.size, 0, none⟩) 3 3) rfl ?_ ?_ ?_) rfl ?_
    · simp [go_sem, p0]
    · simp [go_sem, p1]
    · simp [go_sem, p2]
    have hb8 : Below w.heap.size w w19 := HB4.out.trans (b19.mono HB4.out.size)
    refine ⟨_, _, _, rfl, ?_, ((hb8.setCell (p := ⟨w.heap.size + 1, 0, none⟩) (Nat.le_succ _) _).setCell (p := ⟨w.heap.size + 1, 1, none⟩) (Nat.le_succ _) _).setCell (p := ⟨w.heap.size + 1, 2, none⟩) (Nat.le_succ _) _⟩
    exact RIn.mono (((HL_19.out.store (g := w.heap.size + 1) (by omega) _).store (g := w.heap.size + 1) (by omega) _).store (g := w.heap.size + 1) (by omega) _) (by omega)
  · go_simp
    refine hK.out _ _ (by simp [go_sem]) (fun hHeld => ?_)
    clear hK K
    try simp only [Act.put, List.getElem_toArray, List.getElem_cons_zero, List.getElem_cons_succ, List.setIfInBounds_toArray, List.set_cons_zero, List.set_cons_succ]
    refine wpAnyH_ready (rs := [4]) (by kernel_rfl) (by simp) ?_
    refine AllReadyH.cons rfl (fun K hK => ?_) AllReadyH.nil
    go_simp
    refine hK.out _ _ (by simp [go_sem]) (fun hHeld => ?_)
    clear hK K
    try simp only [Act.put, List.getElem_toArray, List.getElem_cons_zero, List.getElem_cons_succ, List.setIfInBounds_toArray, List.set_cons_zero, List.set_cons_succ]
    refine wpAnyH_ready (rs := [6]) (by kernel_rfl) (by simp) ?_
    refine AllReadyH.cons rfl (fun K hK => ?_) AllReadyH.nil
    go_simp
    refine hK.out _ _ (by simp [go_sem]) (fun hHeld => ?_)
    clear hK K
    try simp only [Act.put, List.getElem_toArray, List.getElem_cons_zero, List.getElem_cons_succ, List.setIfInBounds_toArray, List.set_cons_zero, List.set_cons_succ]
    refine wpAnyH_ready (rs := [7]) (by kernel_rfl) (by simp) ?_
    refine AllReadyH.cons rfl (fun K hK => ?_) AllReadyH.nil
    go_simp
    refine hK.out _ _ (by simp [go_sem]) (fun hHeld => ?_)
    clear hK K
    try simp only [Act.put, List.getElem_toArray, List.getElem_cons_zero, List.getElem_cons_succ, List.setIfInBounds_toArray, List.set_cons_zero, List.set_cons_succ]
    refine wpAnyH_done (by kernel_rfl) ?_ 0
    clear hHeld
    go_wp2_with fail
    refine stashW (fun w4 hw4 => ?_)
    have HB4 := Lib.hid (show Below w.heap.size w w4 from by
      rw [hw4]
      repeat' (first | exact Below.refl _ _ | refine Below.drew ?_ | refine Below.setCell ?_ (show w.heap.size ≤ _ from by simp) _ | refine Below.alloc ?_ (by simp <;> omega) _))
    have hz4 : w4.heap.size = w.heap.size + 4 := by rw [hw4]; simp
    have q0 : w4.cell? ⟨w.heap.size + 3, 0, none⟩ = some (.int .u64 n) := by rw [hw4]; simp [go_sem]
    have q1 : w4.cell? ⟨w.heap.size + 3, 1, none⟩ = some (.int .u64 m) := by rw [hw4]; simp [go_sem]
    have q2 : w4.cell? ⟨w.heap.size + 3, 2, none⟩ = some (.string a) := by rw [hw4]; simp [go_sem]
    have q3 : w4.cell? ⟨w.heap.size + 3, 3, none⟩ = some (.string b) := by rw [hw4]; simp [go_sem]
    have q4 : w4.cell? ⟨w.heap.size + 3, 4, none⟩ = some (.string c) := by rw [hw4]; simp [go_sem]
    have q5 : w4.cell? ⟨w.heap.size + 2, 0, none⟩ = some (.string d) := by rw [hw4]; simp [go_sem]
    have q6 : w4.cell? ⟨w.heap.size + 2, 1, none⟩ = some (.string e) := by rw [hw4]; simp [go_sem]
    have q7 : w4.cell? ⟨w.heap.size + 2, 2, none⟩ = some (.int .u64 k) := by rw [hw4]; simp [go_sem]
    have q8 : w4.cell? ⟨w.heap.size, 8, none⟩ = some (.slice p l cp) := by rw [hw4]; simp [go_sem]
    have HZ := Lib.hid (show (w4.cell? ⟨w.heap.size + 1, 0, none⟩ = some (.bool false) ∧ w4.cell? ⟨w.heap.size + 1, 1, none⟩ = some (.string ⟨#[]⟩) ∧ w4.cell? ⟨w.heap.size + 1, 2, none⟩ = some (.slice none 0 0)) ∧ (∀ j, w4.frozen? ⟨w.heap.size + 1, j, none⟩ = false) from by
      rw [hw4]
      refine ⟨⟨by simp [go_sem], by simp [go_sem], by simp [go_sem]⟩, fun j => by simp [go_sem]⟩)
    have HS := Lib.hid (fun W (hb : Below w4.heap.size w4 W) => (show W.cell? ⟨w.heap.size + 3, 0, none⟩ = some (.int .u64 n) ∧ W.cell? ⟨w.heap.size + 3, 1, none⟩ = some (.int .u64 m) ∧ W.cell? ⟨w.heap.size + 3, 2, none⟩ = some (.string a) ∧ W.cell? ⟨w.heap.size + 3, 3, none⟩ = some (.string b) ∧ W.cell? ⟨w.heap.size + 3, 4, none⟩ = some (.string c) ∧ W.cell? ⟨w.heap.size + 2, 0, none⟩ = some (.string d) ∧ W.cell? ⟨w.heap.size + 2, 1, none⟩ = some (.string e) ∧ W.cell? ⟨w.heap.size + 2, 2, none⟩ = some (.int .u64 k) ∧ W.cell? ⟨w.heap.size, 8, none⟩ = some (.slice p l cp) from ⟨(hb.cell (p := ⟨w.heap.size + 3, 0, none⟩) (by dsimp only; omega)).trans q0, (hb.cell (p := ⟨w.heap.size + 3, 1, none⟩) (by dsimp only; omega)).trans q1, (hb.cell (p := ⟨w.heap.size + 3, 2, none⟩) (by dsimp only; omega)).trans q2, (hb.cell (p := ⟨w.heap.size + 3, 3, none⟩) (by dsimp only; omega)).trans q3, (hb.cell (p := ⟨w.heap.size + 3, 4, none⟩) (by dsimp only; omega)).trans q4, (hb.cell (p := ⟨w.heap.size + 2, 0, none⟩) (by dsimp only; omega)).trans q5, (hb.cell (p := ⟨w.heap.size + 2, 1, none⟩) (by dsimp only; omega)).trans q6, (hb.cell (p := ⟨w.heap.size + 2, 2, none⟩) (by dsimp only; omega)).trans q7, (hb.cell (p := ⟨w.heap.size, 8, none⟩) (by dsimp only; omega)).trans q8⟩))
    clear hw4 q0 q1 q2 q3 q4 q5 q6 q7 q8
    have b4 : Below w4.heap.size w4 w4.drew := (Below.refl _ _).drew
    refine wp_region_held_drew (S := (fun W => W.cell? ⟨w.heap.size + 3, 0, none⟩ = some (.int .u64 n) ∧ W.cell? ⟨w.heap.size + 3, 1, none⟩ = some (.int .u64 m) ∧ W.cell? ⟨w.heap.size + 3, 2, none⟩ = some (.string a) ∧ W.cell? ⟨w.heap.size + 3, 3, none⟩ = some (.string b) ∧ W.cell? ⟨w.heap.size + 3, 4, none⟩ = some (.string c) ∧ W.cell? ⟨w.heap.size + 2, 0, none⟩ = some (.string d) ∧ W.cell? ⟨w.heap.size + 2, 1, none⟩ = some (.string e) ∧ W.cell? ⟨w.heap.size + 2, 2, none⟩ = some (.int .u64 k) ∧ W.cell? ⟨w.heap.size, 8, none⟩ = some (.slice p l cp))) (by kernel_rfl) (HS.out _ b4) (fun hHeld => ?_)
    refine wpAnyH_take (i := 0) (v := ?_) rfl (by kernel_rfl) (by kernel_rfl) (by kernel_rfl) (fun _ _ _ h => h) (.inl ⟨by rfl, ?_⟩) (by assumption) ?_
    rotate_left 1
    · intro w0 hSw
      go_simp <;> with_reducible rfl
    try simp only [Act.put, List.getElem_toArray, List.getElem_cons_zero, List.setIfInBounds_toArray, List.set_cons_zero, List.set_cons_succ]
    refine wpAnyH_take (i := 1) (v := ?_) rfl (by kernel_rfl) (by kernel_rfl) (by kernel_rfl) (fun _ _ _ h => h) (.inl ⟨by rfl, ?_⟩) (by assumption) ?_
    rotate_left 1
    · intro w0 hSw
      obtain ⟨z0, z1, z2, z3, z4, z5, z6, z7, z8⟩ := hSw
      go_simp <;> with_reducible rfl
    try simp only [Act.put, List.getElem_toArray, List.getElem_cons_zero, List.getElem_cons_succ, List.setIfInBounds_toArray, List.set_cons_zero, List.set_cons_succ]
    refine wpAnyH_take (i := 3) (v := ?_) rfl (by kernel_rfl) (by kernel_rfl) (by kernel_rfl) (fun _ _ _ h => h) (.inl ⟨by rfl, ?_⟩) (by assumption) ?_
    rotate_left 1
    · intro w0 hSw
      go_simp <;> with_reducible rfl
    try simp only [Act.put, List.getElem_toArray, List.getElem_cons_zero, List.getElem_cons_succ, List.setIfInBounds_toArray, List.set_cons_zero, List.set_cons_succ]
    refine wpAnyH_take (i := 4) (v := ?_) rfl (by kernel_rfl) (by kernel_rfl) (by kernel_rfl) (fun _ _ _ h => h) (.inl ⟨by rfl, ?_⟩) (by assumption) ?_
    rotate_left 1
    · intro w0 hSw
      obtain ⟨z0, z1, z2, z3, z4, z5, z6, z7, z8⟩ := hSw
      go_simp <;> with_reducible rfl
    try simp only [Act.put, List.getElem_toArray, List.getElem_cons_zero, List.getElem_cons_succ, List.setIfInBounds_toArray, List.set_cons_zero, List.set_cons_succ]
    refine wpAnyH_take (i := 6) (v := ?_) rfl (by kernel_rfl) (by kernel_rfl) (by kernel_rfl) (fun _ _ _ h => h) (.inl ⟨by rfl, ?_⟩) (by assumption) ?_
    rotate_left 1
    · intro w0 hSw
      go_simp <;> with_reducible rfl
    try simp only [Act.put, List.getElem_toArray, List.getElem_cons_zero, List.getElem_cons_succ, List.setIfInBounds_toArray, List.set_cons_zero, List.set_cons_succ]
    refine wpAnyH_take (i := 7) (v := ?_) rfl (by kernel_rfl) (by kernel_rfl) (by kernel_rfl) (fun _ _ _ h => h) (.inl ⟨by rfl, ?_⟩) (by assumption) ?_
    rotate_left 1
    · intro w0 hSw
      obtain ⟨z0, z1, z2, z3, z4, z5, z6, z7, z8⟩ := hSw
      go_simp <;> with_reducible rfl
    try simp only [Act.put, List.getElem_toArray, List.getElem_cons_zero, List.getElem_cons_succ, List.setIfInBounds_toArray, List.set_cons_zero, List.set_cons_succ]
    refine wpAnyH_take (i := 9) (v := ?_) rfl (by kernel_rfl) (by kernel_rfl) (by kernel_rfl) (fun _ _ _ h => h) (.inl ⟨by rfl, ?_⟩) (by assumption) ?_
    rotate_left 1
    · intro w0 hSw
      go_simp <;> with_reducible rfl
    try simp only [Act.put, List.getElem_toArray, List.getElem_cons_zero, List.getElem_cons_succ, List.setIfInBounds_toArray, List.set_cons_zero, List.set_cons_succ]
    refine wpAnyH_take (i := 10) (v := ?_) rfl (by kernel_rfl) (by kernel_rfl) (by kernel_rfl) (fun _ _ _ h => h) (.inl ⟨by rfl, ?_⟩) (by assumption) ?_
    rotate_left 1
    · intro w0 hSw
      obtain ⟨z0, z1, z2, z3, z4, z5, z6, z7, z8⟩ := hSw
      go_simp <;> with_reducible rfl
    try simp only [Act.put, List.getElem_toArray, List.getElem_cons_zero, List.getElem_cons_succ, List.setIfInBounds_toArray, List.set_cons_zero, List.set_cons_succ]
    refine wpAnyH_take (i := 12) (v := ?_) rfl (by kernel_rfl) (by kernel_rfl) (by kernel_rfl) (fun _ _ _ h => h) (.inl ⟨by rfl, ?_⟩) (by assumption) ?_
    rotate_left 1
    · intro w0 hSw
      go_simp <;> with_reducible rfl
    try simp only [Act.put, List.getElem_toArray, List.getElem_cons_zero, List.getElem_cons_succ, List.setIfInBounds_toArray, List.set_cons_zero, List.set_cons_succ]
    refine wpAnyH_take (i := 13) (v := ?_) rfl (by kernel_rfl) (by kernel_rfl) (by kernel_rfl) (fun _ _ _ h => h) (.inl ⟨by rfl, ?_⟩) (by assumption) ?_
    rotate_left 1
    · intro w0 hSw
      obtain ⟨z0, z1, z2, z3, z4, z5, z6, z7, z8⟩ := hSw
      go_simp <;> with_reducible rfl
    try simp only [Act.put, List.getElem_toArray, List.getElem_cons_zero, List.getElem_cons_succ, List.setIfInBounds_toArray, List.set_cons_zero, List.set_cons_succ]
    refine wpAnyH_take (i := 17) (v := ?_) rfl (by kernel_rfl) (by kernel_rfl) (by kernel_rfl) (fun _ _ _ h => h) (.inl ⟨by rfl, ?_⟩) (by assumption) ?_
    rotate_left 1
    · intro w0 hSw
      go_simp <;> with_reducible rfl
    try simp only [Act.put, List.getElem_toArray, List.getElem_cons_zero, List.getElem_cons_succ, List.setIfInBounds_toArray, List.set_cons_zero, List.set_cons_succ]
    refine wpAnyH_take (i := 18) (v := ?_) rfl (by kernel_rfl) (by kernel_rfl) (by kernel_rfl) (fun _ _ _ h => h) (.inl ⟨by rfl, ?_⟩) (by assumption) ?_
    rotate_left 1
    · intro w0 hSw
      obtain ⟨z0, z1, z2, z3, z4, z5, z6, z7, z8⟩ := hSw
      go_simp <;> with_reducible rfl
    try simp only [Act.put, List.getElem_toArray, List.getElem_cons_zero, List.getElem_cons_succ, List.setIfInBounds_toArray, List.set_cons_zero, List.set_cons_succ]
    refine wpAnyH_take (i := 20) (v := ?_) rfl (by kernel_rfl) (by kernel_rfl) (by kernel_rfl) (fun _ _ _ h => h) (.inl ⟨by rfl, ?_⟩) (by assumption) ?_
    rotate_left 1
    · intro w0 hSw
      go_simp <;> with_reducible rfl
    try simp only [Act.put, List.getElem_toArray, List.getElem_cons_zero, List.getElem_cons_succ, List.setIfInBounds_toArray, List.set_cons_zero, List.set_cons_succ]
    refine wpAnyH_take (i := 21) (v := ?_) rfl (by kernel_rfl) (by kernel_rfl) (by kernel_rfl) (fun _ _ _ h => h) (.inl ⟨by rfl, ?_⟩) (by assumption) ?_
    rotate_left 1
    · intro w0 hSw
      obtain ⟨z0, z1, z2, z3, z4, z5, z6, z7, z8⟩ := hSw
      go_simp <;> with_reducible rfl
    try simp only [Act.put, List.getElem_toArray, List.getElem_cons_zero, List.getElem_cons_succ, List.setIfInBounds_toArray, List.set_cons_zero, List.set_cons_succ]
    refine wpAnyH_take (i := 23) (v := ?_) rfl (by kernel_rfl) (by kernel_rfl) (by kernel_rfl) (fun _ _ _ h => h) (.inl ⟨by rfl, ?_⟩) (by assumption) ?_
    rotate_left 1
    · intro w0 hSw
      go_simp <;> with_reducible rfl
    try simp only [Act.put, List.getElem_toArray, List.getElem_cons_zero, List.getElem_cons_succ, List.setIfInBounds_toArray, List.set_cons_zero, List.set_cons_succ]
    refine wpAnyH_take (i := 24) (v := ?_) rfl (by kernel_rfl) (by kernel_rfl) (by kernel_rfl) (fun _ _ _ h => h) (.inl ⟨by rfl, ?_⟩) (by assumption) ?_
    rotate_left 1
    · intro w0 hSw
      obtain ⟨z0, z1, z2, z3, z4, z5, z6, z7, z8⟩ := hSw
      go_simp <;> with_reducible rfl
    try simp only [Act.put, List.getElem_toArray, List.getElem_cons_zero, List.getElem_cons_succ, List.setIfInBounds_toArray, List.set_cons_zero, List.set_cons_succ]
    refine wpAnyH_take (i := 28) (v := ?_) rfl (by kernel_rfl) (by kernel_rfl) (by kernel_rfl) (fun _ _ _ h => h) (.inl ⟨by rfl, ?_⟩) (by assumption) ?_
    rotate_left 1
    · intro w0 hSw
      go_simp <;> with_reducible rfl
    try simp only [Act.put, List.getElem_toArray, List.getElem_cons_zero, List.getElem_cons_succ, List.setIfInBounds_toArray, List.set_cons_zero, List.set_cons_succ]
    refine wpAnyH_take (i := 29) (v := ?_) rfl (by kernel_rfl) (by kernel_rfl) (by kernel_rfl) (fun _ _ _ h => h) (.inl ⟨by rfl, ?_⟩) (by assumption) ?_
    rotate_left 1
    · intro w0 hSw
      obtain ⟨z0, z1, z2, z3, z4, z5, z6, z7, z8⟩ := hSw
      go_simp <;> with_reducible rfl
    try simp only [Act.put, List.getElem_toArray, List.getElem_cons_zero, List.getElem_cons_succ, List.setIfInBounds_toArray, List.set_cons_zero, List.set_cons_succ]
    refine wpAnyH_ready (rs := [2]) (by kernel_rfl) (by simp) ?_
    refine AllReadyH.cons rfl (fun K hK => ?_) AllReadyH.nil
    go_simp
    go_at_call 71
    refine (HN.out _).mono ?_
    rintro z w5 ⟨rfl, hb5⟩
    have b5 : Below w4.heap.size w4 w5 := b4.trans (hb5.mono b4.size)
    clear hb5
    refine hK.out _ _ (HS.out _ b5) (fun hHeld => ?_)
    clear hK K
    try simp only [Act.put, List.getElem_toArray, List.getElem_cons_zero, List.getElem_cons_succ, List.setIfInBounds_toArray, List.set_cons_zero, List.set_cons_succ]
    refine wpAnyH_ready (rs := [5]) (by kernel_rfl) (by simp) ?_
    refine AllReadyH.cons rfl (fun K hK => ?_) AllReadyH.nil
    go_simp
    go_at_call 71
    refine (HM.out _).mono ?_
    rintro z w6 ⟨rfl, hb6⟩
    have b6 : Below w4.heap.size w4 w6 := b5.trans (hb6.mono b5.size)
    clear hb6
    refine hK.out _ _ (HS.out _ b6) (fun hHeld => ?_)
    clear hK K
    try simp only [Act.put, List.getElem_toArray, List.getElem_cons_zero, List.getElem_cons_succ, List.setIfInBounds_toArray, List.set_cons_zero, List.set_cons_succ]
    refine wpAnyH_ready (rs := [8]) (by kernel_rfl) (by simp) ?_
    refine AllReadyH.cons rfl (fun K hK => ?_) AllReadyH.nil
    go_simp
    go_at_call 72
    refine (text_any a _).mono ?_
    rintro z w7 ⟨rfl, hb7⟩
    have b7 : Below w4.heap.size w4 w7 := b6.trans (hb7.mono b6.size)
    clear hb7
    refine hK.out _ _ (HS.out _ b7) (fun hHeld => ?_)
    clear hK K
    try simp only [Act.put, List.getElem_toArray, List.getElem_cons_zero, List.getElem_cons_succ, List.setIfInBounds_toArray, List.set_cons_zero, List.set_cons_succ]
    refine wpAnyH_ready (rs := [11]) (by kernel_rfl) (by simp) ?_
    refine AllReadyH.cons rfl (fun K hK => ?_) AllReadyH.nil
    go_simp
    go_at_call 72
    refine (text_any b _).mono ?_
    rintro z w8 ⟨rfl, hb8⟩
    have b8 : Below w4.heap.size w4 w8 := b7.trans (hb8.mono b7.size)
    clear hb8
    refine hK.out _ _ (HS.out _ b8) (fun hHeld => ?_)
    clear hK K
    try simp only [Act.put, List.getElem_toArray, List.getElem_cons_zero, List.getElem_cons_succ, List.setIfInBounds_toArray, List.set_cons_zero, List.set_cons_succ]
    refine wpAnyH_ready (rs := [14]) (by kernel_rfl) (by simp) ?_
    refine AllReadyH.cons rfl (fun K hK => ?_) AllReadyH.nil
    go_simp
    go_at_call 72
    refine (text_any c _).mono ?_
    rintro z w9 ⟨rfl, hb9⟩
    have b9 : Below w4.heap.size w4 w9 := b8.trans (hb9.mono b8.size)
    clear hb9
    refine hK.out _ _ (HS.out _ b9) (fun hHeld => ?_)
    clear hK K
    try simp only [Act.put, List.getElem_toArray, List.getElem_cons_zero, List.getElem_cons_succ, List.setIfInBounds_toArray, List.set_cons_zero, List.set_cons_succ]
    refine wpAnyH_ready (rs := [15]) (by kernel_rfl) (by simp) ?_
    refine AllReadyH.cons rfl (fun K hK => ?_) AllReadyH.nil
    go_simp
    have hal : ∃ W, w9.alloc (.cells #[.bool false, .string ⟨(num n).toArray⟩, .slice none 0 0, .bool false, .string ⟨(num m).toArray⟩, .slice none 0 0, .bool false, .string a, .slice none 0 0, .bool false, .string b, .slice none 0 0, .bool false, .string c, .slice none 0 0] 80) = W := ⟨_, rfl⟩
    obtain ⟨w10, hal⟩ := hal
    have hb10 : Below w9.heap.size w9 w10 := by rw [← hal]; exact (Below.refl _ _).alloc (Nat.le_refl _) _
    have b10 : Below w4.heap.size w4 w10 := b9.trans (hb10.mono b9.size)
    have HA_10 := Lib.hid (show RIn w10 w4.heap.size (.slice (some ⟨w9.heap.size, 0, none⟩) 5 5) [itN n, itN m, itT a, itT b, itT c] from by
      rw [← hal]
      refine reads_new w9 w4.heap.size 5 [(itN n, .slice none 0 0), (itN m, .slice none 0 0), (itT a, .slice none 0 0), (itT b, .slice none 0 0), (itT c, .slice none 0 0)] rfl b9.size (fun q hq => ?_)
      simp only [List.mem_cons, List.not_mem_nil, or_false] at hq
      rcases hq with rfl | rfl | rfl | rfl | rfl
      · exact RIn.nil _ _
      · exact RIn.nil _ _
      · exact RIn.nil _ _
      · exact RIn.nil _ _
      · exact RIn.nil _ _)
    rw [hal]
    clear hal hb10 
    refine hK.out _ _ (HS.out _ b10) (fun hHeld => ?_)
    clear hK K
    try simp only [Act.put, List.getElem_toArray, List.getElem_cons_zero, List.getElem_cons_succ, List.setIfInBounds_toArray, List.set_cons_zero, List.set_cons_succ]
    refine wpAnyH_ready (rs := [16]) (by kernel_rfl) (by simp) ?_
    refine AllReadyH.cons rfl (fun K hK => ?_) AllReadyH.nil
    go_simp
    go_at_call 62
    refine (list_any _ _ _ _).mono ?_
    rintro z w11 ⟨rfl, hb11⟩
    have b11 : Below w4.heap.size w4 w11 := b10.trans (hb11.mono b10.size)
    have HA_11 := Lib.hid (HA_10.out.below hb11)
    clear HA_10
    clear hb11
    refine hK.out _ _ (HS.out _ b11) (fun hHeld => ?_)
    clear hK K
    try simp only [Act.put, List.getElem_toArray, List.getElem_cons_zero, List.getElem_cons_succ, List.setIfInBounds_toArray, List.set_cons_zero, List.set_cons_succ]
    refine wpAnyH_ready (rs := [19]) (by kernel_rfl) (by simp) ?_
    refine AllReadyH.cons rfl (fun K hK => ?_) AllReadyH.nil
    go_simp
    go_at_call 72
    refine (text_any d _).mono ?_
    rintro z w12 ⟨rfl, hb12⟩
    have b12 : Below w4.heap.size w4 w12 := b11.trans (hb12.mono b11.size)
    have HA_12 := Lib.hid (HA_11.out.below hb12)
    clear HA_11
    clear hb12
    refine hK.out _ _ (HS.out _ b12) (fun hHeld => ?_)
    clear hK K
    try simp only [Act.put, List.getElem_toArray, List.getElem_cons_zero, List.getElem_cons_succ, List.setIfInBounds_toArray, List.set_cons_zero, List.set_cons_succ]
    refine wpAnyH_ready (rs := [22]) (by kernel_rfl) (by simp) ?_
    refine AllReadyH.cons rfl (fun K hK => ?_) AllReadyH.nil
    go_simp
    go_at_call 72
    refine (text_any e _).mono ?_
    rintro z w13 ⟨rfl, hb13⟩
    have b13 : Below w4.heap.size w4 w13 := b12.trans (hb13.mono b12.size)
    have HA_13 := Lib.hid (HA_12.out.below hb13)
    clear HA_12
    clear hb13
    refine hK.out _ _ (HS.out _ b13) (fun hHeld => ?_)
    clear hK K
    try simp only [Act.put, List.getElem_toArray, List.getElem_cons_zero, List.getElem_cons_succ, List.setIfInBounds_toArray, List.set_cons_zero, List.set_cons_succ]
    refine wpAnyH_ready (rs := [25]) (by kernel_rfl) (by simp) ?_
    refine AllReadyH.cons rfl (fun K hK => ?_) AllReadyH.nil
    go_simp
    go_at_call 71
    refine (HK.out _).mono ?_
    rintro z w14 ⟨rfl, hb14⟩
    have b14 : Below w4.heap.size w4 w14 := b13.trans (hb14.mono b13.size)
    have HA_14 := Lib.hid (HA_13.out.below hb14)
    clear HA_13
    clear hb14
    refine hK.out _ _ (HS.out _ b14) (fun hHeld => ?_)
    clear hK K
    try simp only [Act.put, List.getElem_toArray, List.getElem_cons_zero, List.getElem_cons_succ, List.setIfInBounds_toArray, List.set_cons_zero, List.set_cons_succ]
    refine wpAnyH_ready (rs := [26]) (by kernel_rfl) (by simp) ?_
    refine AllReadyH.cons rfl (fun K hK => ?_) AllReadyH.nil
    go_simp
    have hal : ∃ W, w14.alloc (.cells #[.bool false, .string d, .slice none 0 0, .bool false, .string e, .slice none 0 0, .bool false, .string ⟨(num k).toArray⟩, .slice none 0 0] 80) = W := ⟨_, rfl⟩
    obtain ⟨w15, hal⟩ := hal
    have hb15 : Below w14.heap.size w14 w15 := by rw [← hal]; exact (Below.refl _ _).alloc (Nat.le_refl _) _
    have b15 : Below w4.heap.size w4 w15 := b14.trans (hb15.mono b14.size)
    have HX_15 := Lib.hid (show RIn w15 w4.heap.size (.slice (some ⟨w14.heap.size, 0, none⟩) 3 3) [itT d, itT e, itN k] from by
      rw [← hal]
      refine reads_new w14 w4.heap.size 3 [(itT d, .slice none 0 0), (itT e, .slice none 0 0), (itN k, .slice none 0 0)] rfl b14.size (fun q hq => ?_)
      simp only [List.mem_cons, List.not_mem_nil, or_false] at hq
      rcases hq with rfl | rfl | rfl
      · exact RIn.nil _ _
      · exact RIn.nil _ _
      · exact RIn.nil _ _)
    have HA_15 := Lib.hid (HA_14.out.below hb15)
    rw [hal]
    clear hal hb15 HA_14
    refine hK.out _ _ (HS.out _ b15) (fun hHeld => ?_)
    clear hK K
    try simp only [Act.put, List.getElem_toArray, List.getElem_cons_zero, List.getElem_cons_succ, List.setIfInBounds_toArray, List.set_cons_zero, List.set_cons_succ]
    refine wpAnyH_ready (rs := [27]) (by kernel_rfl) (by simp) ?_
    refine AllReadyH.cons rfl (fun K hK => ?_) AllReadyH.nil
    go_simp
    go_at_call 62
    refine (list_any _ _ _ _).mono ?_
    rintro z w16 ⟨rfl, hb16⟩
    have b16 : Below w4.heap.size w4 w16 := b15.trans (hb16.mono b15.size)
    have HA_16 := Lib.hid (HA_15.out.below hb16)
    have HX_16 := Lib.hid (HX_15.out.below hb16)
    clear HA_15 HX_15
    clear hb16
    refine hK.out _ _ (HS.out _ b16) (fun hHeld => ?_)
    clear hK K
    try simp only [Act.put, List.getElem_toArray, List.getElem_cons_zero, List.getElem_cons_succ, List.setIfInBounds_toArray, List.set_cons_zero, List.set_cons_succ]
    refine wpAnyH_ready (rs := [30]) (by kernel_rfl) (by simp) ?_
    refine AllReadyH.cons rfl (fun K hK => ?_) AllReadyH.nil
    go_simp
    go_at_call 65
    refine (HT.out _ (HV.out.below (HB4.out.trans (b16.mono HB4.out.size)))).mono ?_
    rintro z w17 ⟨pt, nt, ct, rfl, hrt, hb17⟩
    have b17 : Below w4.heap.size w4 w17 := b16.trans (hb17.mono b16.size)
    have HA_17 := Lib.hid (HA_16.out.below hb17)
    have HX_17 := Lib.hid (HX_16.out.below hb17)
    clear HA_16 HX_16
    have HT2_17 := Lib.hid (RIn.mono hrt b16.size)
    clear hrt
    clear hb17
    refine hK.out _ _ (HS.out _ b17) (fun hHeld => ?_)
    clear hK K
    try simp only [Act.put, List.getElem_toArray, List.getElem_cons_zero, List.getElem_cons_succ, List.setIfInBounds_toArray, List.set_cons_zero, List.set_cons_succ]
    refine wpAnyH_ready (rs := [31]) (by kernel_rfl) (by simp) ?_
    refine AllReadyH.cons rfl (fun K hK => ?_) AllReadyH.nil
    go_simp
    have hal : ∃ W, w17.alloc (.cells #[.bool true, .string ⟨#[]⟩, .slice (some ⟨w9.heap.size, 0, none⟩) 5 5, .bool true, .string ⟨#[]⟩, .slice (some ⟨w14.heap.size, 0, none⟩) 3 3, .bool true, .string ⟨#[]⟩, .slice pt nt ct] 80) = W := ⟨_, rfl⟩
    obtain ⟨w18, hal⟩ := hal
    have hb18 : Below w17.heap.size w17 w18 := by rw [← hal]; exact (Below.refl _ _).alloc (Nat.le_refl _) _
    have b18 : Below w4.heap.size w4 w18 := b17.trans (hb18.mono b17.size)
    have HL_18 := Lib.hid (show RIn w18 w4.heap.size (.slice (some ⟨w17.heap.size, 0, none⟩) 3 3) [itL [itN n, itN m, itT a, itT b, itT c], itL [itT d, itT e, itN k], itTs br] from by
      rw [← hal]
      refine reads_new w17 w4.heap.size 3 [(itL [itN n, itN m, itT a, itT b, itT c], .slice (some ⟨w9.heap.size, 0, none⟩) 5 5), (itL [itT d, itT e, itN k], .slice (some ⟨w14.heap.size, 0, none⟩) 3 3), (itTs br, .slice pt nt ct)] rfl b17.size (fun q hq => ?_)
      simp only [List.mem_cons, List.not_mem_nil, or_false] at hq
      rcases hq with rfl | rfl | rfl
      · exact HA_17.out
      · exact HX_17.out
      · exact HT2_17.out)
    rw [hal]
    clear hal hb18 HA_17 HX_17 HT2_17
    refine hK.out _ _ (HS.out _ b18) (fun hHeld => ?_)
    clear hK K
    try simp only [Act.put, List.getElem_toArray, List.getElem_cons_zero, List.getElem_cons_succ, List.setIfInBounds_toArray, List.set_cons_zero, List.set_cons_succ]
    refine wpAnyH_ready (rs := [32]) (by kernel_rfl) (by simp) ?_
    refine AllReadyH.cons rfl (fun K hK => ?_) AllReadyH.nil
    go_simp
    go_at_call 62
    refine (list_any _ _ _ _).mono ?_
    rintro z w19 ⟨rfl, hb19⟩
    have b19 : Below w4.heap.size w4 w19 := b18.trans (hb19.mono b18.size)
    have HL_19 := Lib.hid (HL_18.out.below hb19)
    clear HL_18
    clear hb19
    refine hK.out _ _ (HS.out _ b19) (fun hHeld => ?_)
    clear hK K
    try simp only [Act.put, List.getElem_toArray, List.getElem_cons_zero, List.getElem_cons_succ, List.setIfInBounds_toArray, List.set_cons_zero, List.set_cons_succ]
    obtain ⟨⟨y0, y1, y2⟩, yf⟩ := HZ.out
    have p0 := (b19.cell (p := ⟨w.heap.size + 1, 0, none⟩) (by dsimp only; omega)).trans y0
    have p1 := (b19.cell (p := ⟨w.heap.size + 1, 1, none⟩) (by dsimp only; omega)).trans y1
    have p2 := (b19.cell (p := ⟨w.heap.size + 1, 2, none⟩) (by dsimp only; omega)).trans y2
    have f0 := (b19.frozen (p := ⟨w.heap.size + 1, 0, none⟩) (by dsimp only; omega)).trans (yf 0)
    have f1 := (b19.frozen (p := ⟨w.heap.size + 1, 1, none⟩) (by dsimp only; omega)).trans (yf 1)
    have f2 := (b19.frozen (p := ⟨w.heap.size + 1, 2, none⟩) (by dsimp only; omega)).trans (yf 2)
    clear y0 y1 y2 yf
    refine wpAnyH_ready (rs := [33]) (by kernel_rfl) (by simp) ?_
    refine AllReadyH.cons rfl (fun K hK => ?_) AllReadyH.nil
    go_simp
    refine hK.out _ _ (⟨three_other hHeld.1 (by omega) _ _ _, three_other hHeld.2.1 (by omega) _ _ _, three_other hHeld.2.2.1 (by omega) _ _ _, three_other hHeld.2.2.2.1 (by omega) _ _ _, three_other hHeld.2.2.2.2.1 (by omega) _ _ _, three_other hHeld.2.2.2.2.2.1 (by omega) _ _ _, three_other hHeld.2.2.2.2.2.2.1 (by omega) _ _ _, three_other hHeld.2.2.2.2.2.2.2.1 (by omega) _ _ _, three_other hHeld.2.2.2.2.2.2.2.2 (by omega) _ _ _⟩) (fun hHeld => ?_)
    clear hK K
    try simp only [Act.put, List.getElem_toArray, List.getElem_cons_zero, List.getElem_cons_succ, List.setIfInBounds_toArray, List.set_cons_zero, List.set_cons_succ]
    refine wpAnyH_done (by kernel_rfl) ?_ 0
    go_wp2_with fail
    refine bodyPost_ret (results_item0 rfl _ _ (w.heap.size + 1) (.bool true) (.string ⟨#[]⟩) (.slice (some ⟨w17.heap.size, 0, none⟩) 3 3) rfl ?_ ?_ ?_) rfl ?_
    · simp [go_sem, p0]
    · simp [go_sem, p1]
    · simp [go_sem, p2]
    have hb8 : Below w.heap.size w w19 := HB4.out.trans (b19.mono HB4.out.size)
    refine ⟨_, _, _, rfl, ?_, ((hb8.setCell (p := ⟨w.heap.size + 1, 0, none⟩) (Nat.le_succ _) _).setCell (p := ⟨w.heap.size + 1, 1, none⟩) (Nat.le_succ _) _).setCell (p := ⟨w.heap.size + 1, 2, none⟩) (Nat.le_succ _) _⟩
    exact RIn.mono (((HL_19.out.store (g := w.heap.size + 1) (by omega) _).store (g := w.heap.size + 1) (by omega) _).store (g := w.heap.size + 1) (by omega) _) (by omega)
end Go.Proofs.YtfbopnebfdkhdaaDoor

/- Contract of pharosref13.light: a Light's item. -/
namespace Go.Proofs.YtfbopnebfdkhdaaDoor
open Go.RowKit Go.Shelf Go.Lib
attribute [local go_sem] Oper.semAt_some

/-- the body behind its regions 0 to 4; behind 0 to 3 -/
noncomputable def rlight5 : Code := match Tryd.f68.body with
  | some (.seq _ (.seq _ (.seq _ (.seq _ (.seq _ r))))) => r
  | _ => .ret
noncomputable def rlight4 : Code := match Tryd.f68.body with
  | some (.seq _ (.seq _ (.seq _ (.seq _ r)))) => r
  | _ => .ret
set_option maxRecDepth 100000 in
set_option maxHeartbeats 6400000 in
theorem rlight_r5 (n m : Nat) (a b c d e : ByteArray) (k : Nat) (p : Option Addr) (l cp : Nat) (br : List ByteArray) (w : World) (hN : br.length ≤ 1048576) (hv : Strs w (.slice p l cp) br) (g5 g6 : Nat) (va vx : Value) (hva : ∃ p' n' c', va = .slice p' n' c') (hvx : ∃ p' n' c', vx = .slice p' n' c') (u7 u8 u9 u10 u11 u12 u13 u14 u15 u16 u17 u18 u19 u20 u21 u22 u23 u24 u25 u26 u27 u28 u29 u30 u31 u32 u33 u34 u35 u36 u37 u38 u39 u40 u41 u42 u43 u44 u45 : Value) (w4 : World) (HB4 : Hid (Below w.heap.size w w4)) (h5 : w.heap.size + 2 ≤ g5 ∧ g5 < w4.heap.size) (h6 : w.heap.size + 2 ≤ g6 ∧ g6 < w4.heap.size)
    (c5 : w4.cell? ⟨g5, 0, none⟩ = some (.bool true) ∧ w4.cell? ⟨g5, 1, none⟩ = some (.string ⟨#[]⟩) ∧ w4.cell? ⟨g5, 2, none⟩ = some (va)) (c6 : w4.cell? ⟨g6, 0, none⟩ = some (.bool true) ∧ w4.cell? ⟨g6, 1, none⟩ = some (.string ⟨#[]⟩) ∧ w4.cell? ⟨g6, 2, none⟩ = some (vx)) (c8 : w4.cell? ⟨w.heap.size, 8, none⟩ = some (.slice p l cp))
    (HZ : Hid ((w4.cell? ⟨w.heap.size + 1, 0, none⟩ = some (.bool false) ∧ w4.cell? ⟨w.heap.size + 1, 1, none⟩ = some (.string ⟨#[]⟩) ∧ w4.cell? ⟨w.heap.size + 1, 2, none⟩ = some (.slice none 0 0)) ∧ ∀ j, w4.frozen? ⟨w.heap.size + 1, j, none⟩ = false))
    (HA : RIn w4 (w.heap.size + 2) va [itN n, itN m, itT a, itT b, itT c]) (HX : RIn w4 (w.heap.size + 2) vx [itT d, itT e, itN k]) :
    rlight5.wp Tryd.prog (bodyPost Tryd.prog Tryd.f68 (GivesL w (lightItems n m a b c d e k br))) ⟨#[.agg #[.int .u64 n, .int .u64 m, .string a, .string b, .string c, .string d, .string e, .int .u64 k, .slice p l cp], .pointer (some ⟨w.heap.size, 0, none⟩), .pointer (some ⟨w.heap.size + 1, 0, none⟩), .pointer (some ⟨w.heap.size + 2, 0, none⟩), .pointer (some ⟨w.heap.size + 3, 0, none⟩), .pointer (some ⟨g5, 0, none⟩), .pointer (some ⟨g6, 0, none⟩), u7, u8, u9, u10, u11, u12, u13, u14, u15, u16, u17, u18, u19, u20, u21, u22, u23, u24, u25, u26, u27, u28, u29, u30, u31, u32, u33, u34, u35, u36, u37, u38, u39, u40, u41, u42, u43, u44, u45], []⟩ w4 := by
  obtain ⟨pa, na, ca, rfl⟩ := hva
  obtain ⟨px, nx, cx, rfl⟩ := hvx
  have HV := Lib.hid hv
  obtain ⟨lb, hl⟩ : ∃ lb, br.length = lb := ⟨_, rfl⟩
  have hll : l = lb := by obtain ⟨_, _, e, _⟩ := hv; cases e; exact hl
  have HT := Lib.hid (fun W (h : Strs W (.slice p l cp) br) => ritTexts_any (.slice p l cp) br W h hN)
  have hz4 : w.heap.size + 2 ≤ w4.heap.size := by omega
  have HS := Lib.hid (fun W (hb : Below w4.heap.size w4 W) => (show (W.cell? ⟨g5, 0, none⟩ = some (.bool true) ∧ W.cell? ⟨g5, 1, none⟩ = some (.string ⟨#[]⟩) ∧ W.cell? ⟨g5, 2, none⟩ = some (.slice pa na ca)) ∧ (W.cell? ⟨g6, 0, none⟩ = some (.bool true) ∧ W.cell? ⟨g6, 1, none⟩ = some (.string ⟨#[]⟩) ∧ W.cell? ⟨g6, 2, none⟩ = some (.slice px nx cx)) ∧ W.cell? ⟨w.heap.size, 8, none⟩ = some (.slice p l cp) from ⟨⟨(hb.cell (p := ⟨g5, 0, none⟩) h5.2).trans c5.1, (hb.cell (p := ⟨g5, 1, none⟩) h5.2).trans c5.2.1, (hb.cell (p := ⟨g5, 2, none⟩) h5.2).trans c5.2.2⟩, ⟨(hb.cell (p := ⟨g6, 0, none⟩) h6.2).trans c6.1, (hb.cell (p := ⟨g6, 1, none⟩) h6.2).trans c6.2.1, (hb.cell (p := ⟨g6, 2, none⟩) h6.2).trans c6.2.2⟩, (hb.cell (p := ⟨w.heap.size, 8, none⟩) (by dsimp only; omega)).trans c8⟩))
  have HA_4 := Lib.hid (show RIn w4.drew (w.heap.size + 2) (.slice pa na ca) [itN n, itN m, itT a, itT b, itT c] from HA.below (Below.refl _ _).drew)
  have HX_4 := Lib.hid (show RIn w4.drew (w.heap.size + 2) (.slice px nx cx) [itT d, itT e, itN k] from HX.below (Below.refl _ _).drew)
  clear c5 c6 c8 HA HX hv hl hll
  show Code.wp _ _ _ _ _
  dsimp only [rlight5, Tryd.f68]
  go_wp2_with fail
  have b4 : Below w4.heap.size w4 w4.drew := (Below.refl _ _).drew
  refine wp_region_held_drew (S := (fun W => (W.cell? ⟨g5, 0, none⟩ = some (.bool true) ∧ W.cell? ⟨g5, 1, none⟩ = some (.string ⟨#[]⟩) ∧ W.cell? ⟨g5, 2, none⟩ = some (.slice pa na ca)) ∧ (W.cell? ⟨g6, 0, none⟩ = some (.bool true) ∧ W.cell? ⟨g6, 1, none⟩ = some (.string ⟨#[]⟩) ∧ W.cell? ⟨g6, 2, none⟩ = some (.slice px nx cx)) ∧ W.cell? ⟨w.heap.size, 8, none⟩ = some (.slice p l cp))) (by kernel_rfl) (HS.out _ b4) (fun hHeld => ?_)
  refine wpAnyH_take (i := 0) (v := ?_) rfl (by kernel_rfl) (by kernel_rfl) (by kernel_rfl) (fun _ _ _ h => h) (.inl ⟨by rfl, ?_⟩) (by assumption) ?_
  rotate_left 1
  · intro w0 hSw
    obtain ⟨⟨z0, z1, z2⟩, ⟨z3, z4, z5⟩, z6⟩ := hSw
    go_simp <;> with_reducible rfl
  try simp only [Act.put, List.getElem_toArray, List.getElem_cons_zero, List.setIfInBounds_toArray, List.set_cons_zero, List.set_cons_succ]
  refine wpAnyH_take (i := 1) (v := ?_) rfl (by kernel_rfl) (by kernel_rfl) (by kernel_rfl) (fun _ _ _ h => h) (.inl ⟨by rfl, ?_⟩) (by assumption) ?_
  rotate_left 1
  · intro w0 hSw
    obtain ⟨⟨z0, z1, z2⟩, ⟨z3, z4, z5⟩, z6⟩ := hSw
    go_simp <;> with_reducible rfl
  try simp only [Act.put, List.getElem_toArray, List.getElem_cons_zero, List.getElem_cons_succ, List.setIfInBounds_toArray, List.set_cons_zero, List.set_cons_succ]
  refine wpAnyH_take (i := 2) (v := ?_) rfl (by kernel_rfl) (by kernel_rfl) (by kernel_rfl) (fun _ _ _ h => h) (.inl ⟨by rfl, ?_⟩) (by assumption) ?_
  rotate_left 1
  · intro w0 hSw
    go_simp <;> with_reducible rfl
  try simp only [Act.put, List.getElem_toArray, List.getElem_cons_zero, List.getElem_cons_succ, List.setIfInBounds_toArray, List.set_cons_zero, List.set_cons_succ]
  refine wpAnyH_take (i := 3) (v := ?_) rfl (by kernel_rfl) (by kernel_rfl) (by kernel_rfl) (fun _ _ _ h => h) (.inl ⟨by rfl, ?_⟩) (by assumption) ?_
  rotate_left 1
  · intro w0 hSw
    obtain ⟨⟨z0, z1, z2⟩, ⟨z3, z4, z5⟩, z6⟩ := hSw
    go_simp <;> with_reducible rfl
  try simp only [Act.put, List.getElem_toArray, List.getElem_cons_zero, List.getElem_cons_succ, List.setIfInBounds_toArray, List.set_cons_zero, List.set_cons_succ]
  refine wpAnyH_ready (rs := [4]) (by kernel_rfl) (by simp) ?_
  refine AllReadyH.cons rfl (fun K hK => ?_) AllReadyH.nil
  go_simp
  go_at_call 70
  refine (HT.out _ (HV.out.below (HB4.out.trans (b4.mono HB4.out.size)))).mono ?_
  rintro z w5 ⟨pt, nt, ct, rfl, hrt, hb5⟩
  have b5 : Below w4.heap.size w4 w5 := b4.trans (hb5.mono b4.size)
  have HA_5 := Lib.hid (HA_4.out.below hb5)
  have HX_5 := Lib.hid (HX_4.out.below hb5)
  clear HA_4 HX_4
  have HT2_5 := Lib.hid (RIn.mono hrt (show w.heap.size + 2 ≤ w4.drew.heap.size from hz4))
  clear hrt
  clear hb5
  refine hK.out _ _ (HS.out _ b5) (fun hHeld => ?_)
  clear hK K
  try simp only [Act.put, List.getElem_toArray, List.getElem_cons_zero, List.getElem_cons_succ, List.setIfInBounds_toArray, List.set_cons_zero, List.set_cons_succ]
  refine wpAnyH_ready (rs := [5]) (by kernel_rfl) (by simp) ?_
  refine AllReadyH.cons rfl (fun K hK => ?_) AllReadyH.nil
  go_simp
  have hal : ∃ W, w5.alloc (.cells #[.bool true, .string ⟨#[]⟩, .slice pa na ca, .bool true, .string ⟨#[]⟩, .slice px nx cx, .bool true, .string ⟨#[]⟩, .slice pt nt ct] 80) = W := ⟨_, rfl⟩
  obtain ⟨w6, hal⟩ := hal
  have hb6 : Below w5.heap.size w5 w6 := by rw [← hal]; exact (Below.refl _ _).alloc (Nat.le_refl _) _
  have b6 : Below w4.heap.size w4 w6 := b5.trans (hb6.mono b5.size)
  have HL_6 := Lib.hid (show RIn w6 (w.heap.size + 2) (.slice (some ⟨w5.heap.size, 0, none⟩) 3 3) [itL [itN n, itN m, itT a, itT b, itT c], itL [itT d, itT e, itN k], itTs br] from by
    rw [← hal]
    refine reads_new w5 (w.heap.size + 2) 3 [(itL [itN n, itN m, itT a, itT b, itT c], .slice pa na ca), (itL [itT d, itT e, itN k], .slice px nx cx), (itTs br, .slice pt nt ct)] rfl (by have := b5.size; omega) (fun q hq => ?_)
    simp only [List.mem_cons, List.not_mem_nil, or_false] at hq
    rcases hq with rfl | rfl | rfl
    · exact HA_5.out
    · exact HX_5.out
    · exact HT2_5.out)
  rw [hal]
  clear hal hb6 HA_5 HX_5 HT2_5
  refine hK.out _ _ (HS.out _ b6) (fun hHeld => ?_)
  clear hK K
  try simp only [Act.put, List.getElem_toArray, List.getElem_cons_zero, List.getElem_cons_succ, List.setIfInBounds_toArray, List.set_cons_zero, List.set_cons_succ]
  refine wpAnyH_ready (rs := [6]) (by kernel_rfl) (by simp) ?_
  refine AllReadyH.cons rfl (fun K hK => ?_) AllReadyH.nil
  go_simp
  go_at_call 67
  refine (rlist_any _ _ _ _).mono ?_
  rintro z w7 ⟨rfl, hb7⟩
  have b7 : Below w4.heap.size w4 w7 := b6.trans (hb7.mono b6.size)
  have HL_7 := Lib.hid (HL_6.out.below hb7)
  clear HL_6
  clear hb7
  refine hK.out _ _ (HS.out _ b7) (fun hHeld => ?_)
  clear hK K
  try simp only [Act.put, List.getElem_toArray, List.getElem_cons_zero, List.getElem_cons_succ, List.setIfInBounds_toArray, List.set_cons_zero, List.set_cons_succ]
  obtain ⟨⟨y0, y1, y2⟩, yf⟩ := HZ.out
  have p0 := (b7.cell (p := ⟨w.heap.size + 1, 0, none⟩) (by dsimp only; omega)).trans y0
  have p1 := (b7.cell (p := ⟨w.heap.size + 1, 1, none⟩) (by dsimp only; omega)).trans y1
  have p2 := (b7.cell (p := ⟨w.heap.size + 1, 2, none⟩) (by dsimp only; omega)).trans y2
  have f0 := (b7.frozen (p := ⟨w.heap.size + 1, 0, none⟩) (by dsimp only; omega)).trans (yf 0)
  have f1 := (b7.frozen (p := ⟨w.heap.size + 1, 1, none⟩) (by dsimp only; omega)).trans (yf 1)
  have f2 := (b7.frozen (p := ⟨w.heap.size + 1, 2, none⟩) (by dsimp only; omega)).trans (yf 2)
  clear y0 y1 y2 yf
  refine wpAnyH_ready (rs := [7]) (by kernel_rfl) (by simp) ?_
  refine AllReadyH.cons rfl (fun K hK => ?_) AllReadyH.nil
  go_simp
  refine hK.out _ _ (⟨⟨three_other hHeld.1.1 (by omega) _ _ _, three_other hHeld.1.2.1 (by omega) _ _ _, three_other hHeld.1.2.2 (by omega) _ _ _⟩, ⟨three_other hHeld.2.1.1 (by omega) _ _ _, three_other hHeld.2.1.2.1 (by omega) _ _ _, three_other hHeld.2.1.2.2 (by omega) _ _ _⟩, three_other hHeld.2.2 (by omega) _ _ _⟩) (fun hHeld => ?_)
  clear hK K
  try simp only [Act.put, List.getElem_toArray, List.getElem_cons_zero, List.getElem_cons_succ, List.setIfInBounds_toArray, List.set_cons_zero, List.set_cons_succ]
  refine wpAnyH_done (by kernel_rfl) ?_ 0
  go_wp2_with fail
  refine bodyPost_ret (results_item0 rfl _ _ (w.heap.size + 1) (.bool true) (.string ⟨#[]⟩) (.slice (some ⟨w5.heap.size, 0, none⟩) 3 3) rfl ?_ ?_ ?_) rfl ?_
  · simp [go_sem, p0]
  · simp [go_sem, p1]
  · simp [go_sem, p2]
  have hb8 : Below w.heap.size w w7 := HB4.out.trans (b7.mono HB4.out.size)
  refine ⟨_, _, _, rfl, ?_, ((hb8.setCell (p := ⟨w.heap.size + 1, 0, none⟩) (Nat.le_succ _) _).setCell (p := ⟨w.heap.size + 1, 1, none⟩) (Nat.le_succ _) _).setCell (p := ⟨w.heap.size + 1, 2, none⟩) (Nat.le_succ _) _⟩
  exact RIn.mono (((HL_7.out.store (g := w.heap.size + 1) (by omega) _).store (g := w.heap.size + 1) (by omega) _).store (g := w.heap.size + 1) (by omega) _) (by omega)
end Go.Proofs.YtfbopnebfdkhdaaDoor

/- pharosref13.light's region 4: a variable is laid at any time among its calls. -/
namespace Go.Proofs.YtfbopnebfdkhdaaDoor
open Go.RowKit Go.Shelf Go.Lib
attribute [local go_sem] Oper.semAt_some

theorem three_same {W : World} {g : Nat} {u0 u1 u2 : Value} (p0 : W.cell? ⟨g, 0, none⟩ = some u0) (p1 : W.cell? ⟨g, 1, none⟩ = some u1) (p2 : W.cell? ⟨g, 2, none⟩ = some u2) (v0 v1 v2 : Value) :
    (((W.setCell ⟨g, 0, none⟩ v0).setCell ⟨g, 1, none⟩ v1).setCell ⟨g, 2, none⟩ v2).cell? ⟨g, 0, none⟩ = some v0 ∧ (((W.setCell ⟨g, 0, none⟩ v0).setCell ⟨g, 1, none⟩ v1).setCell ⟨g, 2, none⟩ v2).cell? ⟨g, 1, none⟩ = some v1 ∧ (((W.setCell ⟨g, 0, none⟩ v0).setCell ⟨g, 1, none⟩ v1).setCell ⟨g, 2, none⟩ v2).cell? ⟨g, 2, none⟩ = some v2 := by
  refine ⟨by simp [go_sem, p0], by simp [go_sem, p1], by simp [go_sem, p2]⟩
theorem zero_three {w4 W : World} {b g : Nat} (hz : (w4.cell? ⟨b, 0, none⟩ = some (.bool false) ∧ w4.cell? ⟨b, 1, none⟩ = some (.string ⟨#[]⟩) ∧ w4.cell? ⟨b, 2, none⟩ = some (.slice none 0 0)) ∧ ∀ j, w4.frozen? ⟨b, j, none⟩ = false) (hb : Below w4.heap.size w4 W) (hB : b < w4.heap.size) (hne : b ≠ g) (v0 v1 v2 : Value) :
    ((((W.setCell ⟨g, 0, none⟩ v0).setCell ⟨g, 1, none⟩ v1).setCell ⟨g, 2, none⟩ v2).cell? ⟨b, 0, none⟩ = some (.bool false) ∧ (((W.setCell ⟨g, 0, none⟩ v0).setCell ⟨g, 1, none⟩ v1).setCell ⟨g, 2, none⟩ v2).cell? ⟨b, 1, none⟩ = some (.string ⟨#[]⟩) ∧ (((W.setCell ⟨g, 0, none⟩ v0).setCell ⟨g, 1, none⟩ v1).setCell ⟨g, 2, none⟩ v2).cell? ⟨b, 2, none⟩ = some (.slice none 0 0)) ∧
      ∀ j, (((W.setCell ⟨g, 0, none⟩ v0).setCell ⟨g, 1, none⟩ v1).setCell ⟨g, 2, none⟩ v2).frozen? ⟨b, j, none⟩ = false := by
  obtain ⟨⟨h0, h1, h2⟩, hf⟩ := hz
  refine ⟨⟨three_other ((hb.cell (p := ⟨b, 0, none⟩) hB).trans h0) hne _ _ _, three_other ((hb.cell (p := ⟨b, 1, none⟩) hB).trans h1) hne _ _ _, three_other ((hb.cell (p := ⟨b, 2, none⟩) hB).trans h2) hne _ _ _⟩, fun j => ?_⟩
  rw [World.frozen?_setCell, World.frozen?_setCell, World.frozen?_setCell]
  exact (hb.frozen (p := ⟨b, j, none⟩) hB).trans (hf j)
theorem keep_before {wi W : World} {lo : Nat} {v : Value} {xs : List Item} (h : RIn wi lo v xs) (hb : Below wi.heap.size wi W) (v0 v1 v2 : Value) : RIn (((W.setCell ⟨wi.heap.size, 0, none⟩ v0).setCell ⟨wi.heap.size, 1, none⟩ v1).setCell ⟨wi.heap.size, 2, none⟩ v2) lo v xs :=
  ReadsIn.kept h (fun g _ o hg hc => three_other ((hb.cell (p := ⟨g, o, none⟩) hg.2).trans hc) (by omega) _ _ _) (fun g hg => ⟨hg.1, by
    rw [World.size_setCell, World.size_setCell, World.size_setCell]
    exact Nat.lt_of_lt_of_le hg.2 hb.size⟩)
theorem keep_after {W : World} {g lo : Nat} {v : Value} {xs : List Item} (h : RIn W lo v xs) (hlo : g < lo) (v0 v1 v2 : Value) : RIn (((W.setCell ⟨g, 0, none⟩ v0).setCell ⟨g, 1, none⟩ v1).setCell ⟨g, 2, none⟩ v2) lo v xs := ((h.store hlo v0).store hlo v1).store hlo v2
set_option maxRecDepth 100000 in
set_option maxHeartbeats 20000000 in
theorem rlight_r4 (n m : Nat) (a b c d e : ByteArray) (k : Nat) (p : Option Addr) (l cp : Nat) (br : List ByteArray) (w : World) (hN : br.length ≤ 1048576) (hv : Strs w (.slice p l cp) br) (hk : k < 18446744073709551616) (g5 : Nat) (va : Value) (hva : ∃ p' n' c', va = .slice p' n' c') (u6 u7 u8 u9 u10 u11 u12 u13 u14 u15 u16 u17 u18 u19 u20 u21 u22 u23 u24 u25 u26 u27 u28 u29 u30 u31 u32 u33 u34 u35 u36 u37 u38 u39 u40 u41 u42 u43 u44 u45 : Value) (w4 : World) (HB4 : Hid (Below w.heap.size w w4)) (h5 : w.heap.size + 2 ≤ g5 ∧ g5 < w4.heap.size) (hz4 : w.heap.size + 4 ≤ w4.heap.size)
    (hc : (w4.cell? ⟨g5, 0, none⟩ = some (.bool true) ∧ w4.cell? ⟨g5, 1, none⟩ = some (.string ⟨#[]⟩) ∧ w4.cell? ⟨g5, 2, none⟩ = some (va)) ∧ w4.cell? ⟨w.heap.size, 8, none⟩ = some (.slice p l cp) ∧ w4.cell? ⟨w.heap.size + 3, 0, none⟩ = some (.string d) ∧ w4.cell? ⟨w.heap.size + 3, 1, none⟩ = some (.string e) ∧ w4.cell? ⟨w.heap.size + 3, 2, none⟩ = some (.int .u64 k))
    (HZ : Hid ((w4.cell? ⟨w.heap.size + 1, 0, none⟩ = some (.bool false) ∧ w4.cell? ⟨w.heap.size + 1, 1, none⟩ = some (.string ⟨#[]⟩) ∧ w4.cell? ⟨w.heap.size + 1, 2, none⟩ = some (.slice none 0 0)) ∧ ∀ j, w4.frozen? ⟨w.heap.size + 1, j, none⟩ = false))
    (HA : Hid (RIn w4 (w.heap.size + 2) va [itN n, itN m, itT a, itT b, itT c])) :
    rlight4.wp Tryd.prog (bodyPost Tryd.prog Tryd.f68 (GivesL w (lightItems n m a b c d e k br))) ⟨#[.agg #[.int .u64 n, .int .u64 m, .string a, .string b, .string c, .string d, .string e, .int .u64 k, .slice p l cp], .pointer (some ⟨w.heap.size, 0, none⟩), .pointer (some ⟨w.heap.size + 1, 0, none⟩), .pointer (some ⟨w.heap.size + 2, 0, none⟩), .pointer (some ⟨w.heap.size + 3, 0, none⟩), .pointer (some ⟨g5, 0, none⟩), u6, u7, u8, u9, u10, u11, u12, u13, u14, u15, u16, u17, u18, u19, u20, u21, u22, u23, u24, u25, u26, u27, u28, u29, u30, u31, u32, u33, u34, u35, u36, u37, u38, u39, u40, u41, u42, u43, u44, u45], []⟩ w4 := by
  have HK := Lib.hid (fun W => ritNumber_any k W hk)
  have HS := Lib.hid (fun W (hb : Below w4.heap.size w4 W) => (show (W.cell? ⟨g5, 0, none⟩ = some (.bool true) ∧ W.cell? ⟨g5, 1, none⟩ = some (.string ⟨#[]⟩) ∧ W.cell? ⟨g5, 2, none⟩ = some (va)) ∧ W.cell? ⟨w.heap.size, 8, none⟩ = some (.slice p l cp) ∧ W.cell? ⟨w.heap.size + 3, 0, none⟩ = some (.string d) ∧ W.cell? ⟨w.heap.size + 3, 1, none⟩ = some (.string e) ∧ W.cell? ⟨w.heap.size + 3, 2, none⟩ = some (.int .u64 k) from ⟨⟨(hb.cell (p := ⟨g5, 0, none⟩) h5.2).trans hc.1.1, (hb.cell (p := ⟨g5, 1, none⟩) h5.2).trans hc.1.2.1, (hb.cell (p := ⟨g5, 2, none⟩) h5.2).trans hc.1.2.2⟩, (hb.cell (p := ⟨w.heap.size, 8, none⟩) (by dsimp only; omega)).trans hc.2.1, (hb.cell (p := ⟨w.heap.size + 3, 0, none⟩) (by dsimp only; omega)).trans hc.2.2.1, (hb.cell (p := ⟨w.heap.size + 3, 1, none⟩) (by dsimp only; omega)).trans hc.2.2.2.1, (hb.cell (p := ⟨w.heap.size + 3, 2, none⟩) (by dsimp only; omega)).trans hc.2.2.2.2⟩))
  clear hc
  show Code.wp _ _ _ _ _
  dsimp only [rlight4, Tryd.f68]
  go_wp2_with fail
  rename_i hkk
  have b4 : Below w4.heap.size w4 w4.drew := (Below.refl _ _).drew
  refine wp_region_held_drew (S := (fun W => (W.cell? ⟨g5, 0, none⟩ = some (.bool true) ∧ W.cell? ⟨g5, 1, none⟩ = some (.string ⟨#[]⟩) ∧ W.cell? ⟨g5, 2, none⟩ = some (va)) ∧ W.cell? ⟨w.heap.size, 8, none⟩ = some (.slice p l cp) ∧ W.cell? ⟨w.heap.size + 3, 0, none⟩ = some (.string d) ∧ W.cell? ⟨w.heap.size + 3, 1, none⟩ = some (.string e) ∧ W.cell? ⟨w.heap.size + 3, 2, none⟩ = some (.int .u64 k))) (by kernel_rfl) (HS.out _ b4) (fun hHeld => ?_)
  refine wpAnyH_take (i := 0) (v := ?_) rfl (by kernel_rfl) (by kernel_rfl) (by kernel_rfl) (fun _ _ _ h => h) (.inl ⟨by rfl, ?_⟩) (by assumption) ?_
  rotate_left 1
  · intro w0 hSw
    go_simp <;> with_reducible rfl
  try simp only [Act.put, List.getElem_toArray, List.getElem_cons_zero, List.setIfInBounds_toArray, List.set_cons_zero, List.set_cons_succ]
  refine wpAnyH_take (i := 1) (v := ?_) rfl (by kernel_rfl) (by kernel_rfl) (by kernel_rfl) (fun _ _ _ h => h) (.inl ⟨by rfl, ?_⟩) (by assumption) ?_
  rotate_left 1
  · intro w0 hSw
    obtain ⟨⟨z0, z1, z2⟩, z3, z4, z5, z6⟩ := hSw
    go_simp <;> with_reducible rfl
  try simp only [Act.put, List.getElem_toArray, List.getElem_cons_zero, List.getElem_cons_succ, List.setIfInBounds_toArray, List.set_cons_zero, List.set_cons_succ]
  refine wpAnyH_take (i := 3) (v := ?_) rfl (by kernel_rfl) (by kernel_rfl) (by kernel_rfl) (fun _ _ _ h => h) (.inl ⟨by rfl, ?_⟩) (by assumption) ?_
  rotate_left 1
  · intro w0 hSw
    go_simp <;> with_reducible rfl
  try simp only [Act.put, List.getElem_toArray, List.getElem_cons_zero, List.getElem_cons_succ, List.setIfInBounds_toArray, List.set_cons_zero, List.set_cons_succ]
  refine wpAnyH_take (i := 4) (v := ?_) rfl (by kernel_rfl) (by kernel_rfl) (by kernel_rfl) (fun _ _ _ h => h) (.inl ⟨by rfl, ?_⟩) (by assumption) ?_
  rotate_left 1
  · intro w0 hSw
    obtain ⟨⟨z0, z1, z2⟩, z3, z4, z5, z6⟩ := hSw
    go_simp <;> with_reducible rfl
  try simp only [Act.put, List.getElem_toArray, List.getElem_cons_zero, List.getElem_cons_succ, List.setIfInBounds_toArray, List.set_cons_zero, List.set_cons_succ]
  refine wpAnyH_take (i := 6) (v := ?_) rfl (by kernel_rfl) (by kernel_rfl) (by kernel_rfl) (fun _ _ _ h => h) (.inl ⟨by rfl, ?_⟩) (by assumption) ?_
  rotate_left 1
  · intro w0 hSw
    go_simp <;> with_reducible rfl
  try simp only [Act.put, List.getElem_toArray, List.getElem_cons_zero, List.getElem_cons_succ, List.setIfInBounds_toArray, List.set_cons_zero, List.set_cons_succ]
  refine wpAnyH_take (i := 7) (v := ?_) rfl (by kernel_rfl) (by kernel_rfl) (by kernel_rfl) (fun _ _ _ h => h) (.inl ⟨by rfl, ?_⟩) (by assumption) ?_
  rotate_left 1
  · intro w0 hSw
    obtain ⟨⟨z0, z1, z2⟩, z3, z4, z5, z6⟩ := hSw
    go_simp <;> with_reducible rfl
  try simp only [Act.put, List.getElem_toArray, List.getElem_cons_zero, List.getElem_cons_succ, List.setIfInBounds_toArray, List.set_cons_zero, List.set_cons_succ]
  refine wpAnyH_ready (rs := [2, 11]) (by kernel_rfl) (by simp) ?_
  refine AllReadyH.cons rfl (fun K hK => ?_) (AllReadyH.cons rfl (fun K hK => ?_) AllReadyH.nil)
  · go_simp
    go_at_call 74
    refine (rtext_any d _).mono ?_
    rintro z w5 ⟨rfl, hb5⟩
    have b5 : Below w4.heap.size w4 w5 := b4.trans (hb5.mono b4.size)
    clear hb5
    refine hK.out _ _ (HS.out _ b5) (fun hHeld => ?_)
    clear hK K
    try simp only [Act.put, List.getElem_toArray, List.getElem_cons_zero, List.getElem_cons_succ, List.setIfInBounds_toArray, List.set_cons_zero, List.set_cons_succ]
    refine wpAnyH_ready (rs := [5, 11]) (by kernel_rfl) (by simp) ?_
    refine AllReadyH.cons rfl (fun K hK => ?_) (AllReadyH.cons rfl (fun K hK => ?_) AllReadyH.nil)
    · go_simp
      go_at_call 74
      refine (rtext_any e _).mono ?_
      rintro z w6 ⟨rfl, hb6⟩
      have b6 : Below w4.heap.size w4 w6 := b5.trans (hb6.mono b5.size)
      clear hb6
      refine hK.out _ _ (HS.out _ b6) (fun hHeld => ?_)
      clear hK K
      try simp only [Act.put, List.getElem_toArray, List.getElem_cons_zero, List.getElem_cons_succ, List.setIfInBounds_toArray, List.set_cons_zero, List.set_cons_succ]
      refine wpAnyH_ready (rs := [8, 11]) (by kernel_rfl) (by simp) ?_
      refine AllReadyH.cons rfl (fun K hK => ?_) (AllReadyH.cons rfl (fun K hK => ?_) AllReadyH.nil)
      · go_simp
        go_at_call 73
        refine (HK.out _).mono ?_
        rintro z w7 ⟨rfl, hb7⟩
        have b7 : Below w4.heap.size w4 w7 := b6.trans (hb7.mono b6.size)
        clear hb7
        refine hK.out _ _ (HS.out _ b7) (fun hHeld => ?_)
        clear hK K
        try simp only [Act.put, List.getElem_toArray, List.getElem_cons_zero, List.getElem_cons_succ, List.setIfInBounds_toArray, List.set_cons_zero, List.set_cons_succ]
        refine wpAnyH_ready (rs := [9, 11]) (by kernel_rfl) (by simp) ?_
        refine AllReadyH.cons rfl (fun K hK => ?_) (AllReadyH.cons rfl (fun K hK => ?_) AllReadyH.nil)
        · go_simp
          have hal : ∃ W, w7.alloc (.cells #[.bool false, .string d, .slice none 0 0, .bool false, .string e, .slice none 0 0, .bool false, .string ⟨(num k).toArray⟩, .slice none 0 0] 80) = W := ⟨_, rfl⟩
          obtain ⟨w8, hal⟩ := hal
          have hb8 : Below w7.heap.size w7 w8 := by rw [← hal]; exact (Below.refl _ _).alloc (Nat.le_refl _) _
          have b8 : Below w4.heap.size w4 w8 := b7.trans (hb8.mono b7.size)
          have HR_8 := Lib.hid (show RIn w8 w4.heap.size (.slice (some ⟨w7.heap.size, 0, none⟩) 3 3) [itT d, itT e, itN k] from by
            rw [← hal]
            refine reads_new w7 (w4.heap.size) 3 [(itT d, .slice none 0 0), (itT e, .slice none 0 0), (itN k, .slice none 0 0)] rfl b7.size (fun q hq => ?_)
            simp only [List.mem_cons, List.not_mem_nil, or_false] at hq
            rcases hq with rfl | rfl | rfl
            · exact RIn.nil _ _
            · exact RIn.nil _ _
            · exact RIn.nil _ _)
          rw [hal]
          clear hal hb8
          refine hK.out _ _ (HS.out _ b8) (fun hHeld => ?_)
          clear hK K
          try simp only [Act.put, List.getElem_toArray, List.getElem_cons_zero, List.getElem_cons_succ, List.setIfInBounds_toArray, List.set_cons_zero, List.set_cons_succ]
          refine wpAnyH_ready (rs := [10, 11]) (by kernel_rfl) (by simp) ?_
          refine AllReadyH.cons rfl (fun K hK => ?_) (AllReadyH.cons rfl (fun K hK => ?_) AllReadyH.nil)
          · go_simp
            go_at_call 67
            refine (rlist_any _ _ _ _).mono ?_
            rintro z w9 ⟨rfl, hb9⟩
            have b9 : Below w4.heap.size w4 w9 := b8.trans (hb9.mono b8.size)
            have HR_9 := Lib.hid (HR_8.out.below hb9)
            clear HR_8
            clear hb9
            refine hK.out _ _ (HS.out _ b9) (fun hHeld => ?_)
            clear hK K
            try simp only [Act.put, List.getElem_toArray, List.getElem_cons_zero, List.getElem_cons_succ, List.setIfInBounds_toArray, List.set_cons_zero, List.set_cons_succ]
            refine wpAnyH_ready (rs := [11]) (by kernel_rfl) (by simp) ?_
            refine AllReadyH.cons rfl (fun K hK => ?_) AllReadyH.nil
            go_simp
            have hal : ∃ W, w9.alloc (.cells #[.bool false, .string ⟨#[]⟩, .slice none 0 0] 80) = W := ⟨_, rfl⟩
            obtain ⟨w10, hal⟩ := hal
            have hba : Below w9.heap.size w9 w10 := by rw [← hal]; exact (Below.refl _ _).alloc (Nat.le_refl _) _
            have b10 : Below w4.heap.size w4 w10 := b9.trans (hba.mono b9.size)
            have c10 : Below w10.heap.size w10 w10 := Below.refl _ _
            have hzi : w4.heap.size ≤ w9.heap.size := b9.size
            have hlt : w9.heap.size < w10.heap.size := by rw [← hal]; simp
            have HZZ := Lib.hid (fun W (hb : Below w10.heap.size w10 W) => zero_cells (w := w9) (W := W) (by rw [hal]; exact hb))
            rw [hal]
            clear hal
            refine hK.out _ _ (HS.out _ b10) (fun hHeld => ?_)
            clear hK K
            try simp only [Act.put, List.getElem_toArray, List.getElem_cons_zero, List.getElem_cons_succ, List.setIfInBounds_toArray, List.set_cons_zero, List.set_cons_succ]
            obtain ⟨p0, p1, p2, f0, f1, f2⟩ := HZZ.out _ c10
            refine wpAnyH_ready (rs := [12]) (by kernel_rfl) (by simp) ?_
            refine AllReadyH.cons rfl (fun K hK => ?_) AllReadyH.nil
            go_simp
            refine hK.out _ _ (⟨⟨three_other hHeld.1.1 (by omega) _ _ _, three_other hHeld.1.2.1 (by omega) _ _ _, three_other hHeld.1.2.2 (by omega) _ _ _⟩, three_other hHeld.2.1 (by omega) _ _ _, three_other hHeld.2.2.1 (by omega) _ _ _, three_other hHeld.2.2.2.1 (by omega) _ _ _, three_other hHeld.2.2.2.2 (by omega) _ _ _⟩) (fun hHeld => ?_)
            clear hK K
            try simp only [Act.put, List.getElem_toArray, List.getElem_cons_zero, List.getElem_cons_succ, List.setIfInBounds_toArray, List.set_cons_zero, List.set_cons_succ]
            refine wpAnyH_done (by kernel_rfl) ?_ 0
            have hbn : Below w9.heap.size w9 w10 := hba.trans (c10.mono hba.size)
            have hbw : Below w.heap.size w w10 := HB4.out.trans (b10.mono HB4.out.size)
            have hsz : w9.heap.size < w10.heap.size := Nat.lt_of_lt_of_le hlt c10.size
            refine hkk _ _ ?_
            refine rlight_r5 n m a b c d e k p l cp br w hN hv g5 (w9.heap.size) va (.slice (some ⟨w7.heap.size, 0, none⟩) 3 3) hva ⟨_, _, _, rfl⟩ _ _ _ _ _ _ _ _ _ _ _ _ _ _ _ _ _ _ _ _ _ _ _ _ _ _ _ _ _ _ _ _ _ _ _ _ _ _ _ _ (Lib.hid (((hbw.setCell (p := ⟨w9.heap.size, 0, none⟩) (show w.heap.size ≤ w9.heap.size by omega) _).setCell (p := ⟨w9.heap.size, 1, none⟩) (show w.heap.size ≤ w9.heap.size by omega) _).setCell (p := ⟨w9.heap.size, 2, none⟩) (show w.heap.size ≤ w9.heap.size by omega) _)) ⟨h5.1, by rw [World.size_setCell, World.size_setCell, World.size_setCell]; omega⟩ ⟨by omega, by rw [World.size_setCell, World.size_setCell, World.size_setCell]; omega⟩ hHeld.1 (three_same p0 p1 p2 _ _ _) hHeld.2.1 (Lib.hid (zero_three HZ.out b10 (by omega) (by omega) _ _ _)) ?_ ?_
            · exact (keep_before (HA.out.below b9) hbn _ _ _)
            · exact (keep_before HR_9.out hbn _ _ _).mono (by omega)
          · go_simp
            have hal : ∃ W, w8.alloc (.cells #[.bool false, .string ⟨#[]⟩, .slice none 0 0] 80) = W := ⟨_, rfl⟩
            obtain ⟨w9, hal⟩ := hal
            have hba : Below w8.heap.size w8 w9 := by rw [← hal]; exact (Below.refl _ _).alloc (Nat.le_refl _) _
            have b9 : Below w4.heap.size w4 w9 := b8.trans (hba.mono b8.size)
            have c9 : Below w9.heap.size w9 w9 := Below.refl _ _
            have hzi : w4.heap.size ≤ w8.heap.size := b8.size
            have hlt : w8.heap.size < w9.heap.size := by rw [← hal]; simp
            have HZZ := Lib.hid (fun W (hb : Below w9.heap.size w9 W) => zero_cells (w := w8) (W := W) (by rw [hal]; exact hb))
            rw [hal]
            clear hal
            refine hK.out _ _ (HS.out _ b9) (fun hHeld => ?_)
            clear hK K
            try simp only [Act.put, List.getElem_toArray, List.getElem_cons_zero, List.getElem_cons_succ, List.setIfInBounds_toArray, List.set_cons_zero, List.set_cons_succ]
            refine wpAnyH_ready (rs := [10]) (by kernel_rfl) (by simp) ?_
            refine AllReadyH.cons rfl (fun K hK => ?_) AllReadyH.nil
            go_simp
            go_at_call 67
            refine (rlist_any _ _ _ _).mono ?_
            rintro z w10 ⟨rfl, hb10⟩
            have b10 : Below w4.heap.size w4 w10 := b9.trans (hb10.mono b9.size)
            have c10 : Below w9.heap.size w9 w10 := c9.trans (hb10.mono c9.size)
            clear hb10
            refine hK.out _ _ (HS.out _ b10) (fun hHeld => ?_)
            clear hK K
            try simp only [Act.put, List.getElem_toArray, List.getElem_cons_zero, List.getElem_cons_succ, List.setIfInBounds_toArray, List.set_cons_zero, List.set_cons_succ]
            obtain ⟨p0, p1, p2, f0, f1, f2⟩ := HZZ.out _ c10
            refine wpAnyH_ready (rs := [12]) (by kernel_rfl) (by simp) ?_
            refine AllReadyH.cons rfl (fun K hK => ?_) AllReadyH.nil
            go_simp
            refine hK.out _ _ (⟨⟨three_other hHeld.1.1 (by omega) _ _ _, three_other hHeld.1.2.1 (by omega) _ _ _, three_other hHeld.1.2.2 (by omega) _ _ _⟩, three_other hHeld.2.1 (by omega) _ _ _, three_other hHeld.2.2.1 (by omega) _ _ _, three_other hHeld.2.2.2.1 (by omega) _ _ _, three_other hHeld.2.2.2.2 (by omega) _ _ _⟩) (fun hHeld => ?_)
            clear hK K
            try simp only [Act.put, List.getElem_toArray, List.getElem_cons_zero, List.getElem_cons_succ, List.setIfInBounds_toArray, List.set_cons_zero, List.set_cons_succ]
            refine wpAnyH_done (by kernel_rfl) ?_ 0
            have hbn : Below w8.heap.size w8 w10 := hba.trans (c10.mono hba.size)
            have hbw : Below w.heap.size w w10 := HB4.out.trans (b10.mono HB4.out.size)
            have hsz : w8.heap.size < w10.heap.size := Nat.lt_of_lt_of_le hlt c10.size
            refine hkk _ _ ?_
            refine rlight_r5 n m a b c d e k p l cp br w hN hv g5 (w8.heap.size) va (.slice (some ⟨w7.heap.size, 0, none⟩) 3 3) hva ⟨_, _, _, rfl⟩ _ _ _ _ _ _ _ _ _ _ _ _ _ _ _ _ _ _ _ _ _ _ _ _ _ _ _ _ _ _ _ _ _ _ _ _ _ _ _ _ (Lib.hid (((hbw.setCell (p := ⟨w8.heap.size, 0, none⟩) (show w.heap.size ≤ w8.heap.size by omega) _).setCell (p := ⟨w8.heap.size, 1, none⟩) (show w.heap.size ≤ w8.heap.size by omega) _).setCell (p := ⟨w8.heap.size, 2, none⟩) (show w.heap.size ≤ w8.heap.size by omega) _)) ⟨h5.1, by rw [World.size_setCell, World.size_setCell, World.size_setCell]; omega⟩ ⟨by omega, by rw [World.size_setCell, World.size_setCell, World.size_setCell]; omega⟩ hHeld.1 (three_same p0 p1 p2 _ _ _) hHeld.2.1 (Lib.hid (zero_three HZ.out b10 (by omega) (by omega) _ _ _)) ?_ ?_
            · exact (keep_before (HA.out.below b8) hbn _ _ _)
            · exact (keep_before HR_8.out hbn _ _ _).mono (by omega)
        · go_simp
          have hal : ∃ W, w7.alloc (.cells #[.bool false, .string ⟨#[]⟩, .slice none 0 0] 80) = W := ⟨_, rfl⟩
          obtain ⟨w8, hal⟩ := hal
          have hba : Below w7.heap.size w7 w8 := by rw [← hal]; exact (Below.refl _ _).alloc (Nat.le_refl _) _
          have b8 : Below w4.heap.size w4 w8 := b7.trans (hba.mono b7.size)
          have c8 : Below w8.heap.size w8 w8 := Below.refl _ _
          have hzi : w4.heap.size ≤ w7.heap.size := b7.size
          have hlt : w7.heap.size < w8.heap.size := by rw [← hal]; simp
          have HZZ := Lib.hid (fun W (hb : Below w8.heap.size w8 W) => zero_cells (w := w7) (W := W) (by rw [hal]; exact hb))
          rw [hal]
          clear hal
          refine hK.out _ _ (HS.out _ b8) (fun hHeld => ?_)
          clear hK K
          try simp only [Act.put, List.getElem_toArray, List.getElem_cons_zero, List.getElem_cons_succ, List.setIfInBounds_toArray, List.set_cons_zero, List.set_cons_succ]
          refine wpAnyH_ready (rs := [9]) (by kernel_rfl) (by simp) ?_
          refine AllReadyH.cons rfl (fun K hK => ?_) AllReadyH.nil
          go_simp
          have hal : ∃ W, w8.alloc (.cells #[.bool false, .string d, .slice none 0 0, .bool false, .string e, .slice none 0 0, .bool false, .string ⟨(num k).toArray⟩, .slice none 0 0] 80) = W := ⟨_, rfl⟩
          obtain ⟨w9, hal⟩ := hal
          have hb9 : Below w8.heap.size w8 w9 := by rw [← hal]; exact (Below.refl _ _).alloc (Nat.le_refl _) _
          have b9 : Below w4.heap.size w4 w9 := b8.trans (hb9.mono b8.size)
          have c9 : Below w8.heap.size w8 w9 := c8.trans (hb9.mono c8.size)
          have HR_9 := Lib.hid (show RIn w9 w8.heap.size (.slice (some ⟨w8.heap.size, 0, none⟩) 3 3) [itT d, itT e, itN k] from by
            rw [← hal]
            refine reads_new w8 (w8.heap.size) 3 [(itT d, .slice none 0 0), (itT e, .slice none 0 0), (itN k, .slice none 0 0)] rfl c8.size (fun q hq => ?_)
            simp only [List.mem_cons, List.not_mem_nil, or_false] at hq
            rcases hq with rfl | rfl | rfl
            · exact RIn.nil _ _
            · exact RIn.nil _ _
            · exact RIn.nil _ _)
          rw [hal]
          clear hal hb9
          refine hK.out _ _ (HS.out _ b9) (fun hHeld => ?_)
          clear hK K
          try simp only [Act.put, List.getElem_toArray, List.getElem_cons_zero, List.getElem_cons_succ, List.setIfInBounds_toArray, List.set_cons_zero, List.set_cons_succ]
          refine wpAnyH_ready (rs := [10]) (by kernel_rfl) (by simp) ?_
          refine AllReadyH.cons rfl (fun K hK => ?_) AllReadyH.nil
          go_simp
          go_at_call 67
          refine (rlist_any _ _ _ _).mono ?_
          rintro z w10 ⟨rfl, hb10⟩
          have b10 : Below w4.heap.size w4 w10 := b9.trans (hb10.mono b9.size)
          have c10 : Below w8.heap.size w8 w10 := c9.trans (hb10.mono c9.size)
          have HR_10 := Lib.hid (HR_9.out.below hb10)
          clear HR_9
          clear hb10
          refine hK.out _ _ (HS.out _ b10) (fun hHeld => ?_)
          clear hK K
          try simp only [Act.put, List.getElem_toArray, List.getElem_cons_zero, List.getElem_cons_succ, List.setIfInBounds_toArray, List.set_cons_zero, List.set_cons_succ]
          obtain ⟨p0, p1, p2, f0, f1, f2⟩ := HZZ.out _ c10
          refine wpAnyH_ready (rs := [12]) (by kernel_rfl) (by simp) ?_
          refine AllReadyH.cons rfl (fun K hK => ?_) AllReadyH.nil
          go_simp
          refine hK.out _ _ (⟨⟨three_other hHeld.1.1 (by omega) _ _ _, three_other hHeld.1.2.1 (by omega) _ _ _, three_other hHeld.1.2.2 (by omega) _ _ _⟩, three_other hHeld.2.1 (by omega) _ _ _, three_other hHeld.2.2.1 (by omega) _ _ _, three_other hHeld.2.2.2.1 (by omega) _ _ _, three_other hHeld.2.2.2.2 (by omega) _ _ _⟩) (fun hHeld => ?_)
          clear hK K
          try simp only [Act.put, List.getElem_toArray, List.getElem_cons_zero, List.getElem_cons_succ, List.setIfInBounds_toArray, List.set_cons_zero, List.set_cons_succ]
          refine wpAnyH_done (by kernel_rfl) ?_ 0
          have hbn : Below w7.heap.size w7 w10 := hba.trans (c10.mono hba.size)
          have hbw : Below w.heap.size w w10 := HB4.out.trans (b10.mono HB4.out.size)
          have hsz : w7.heap.size < w10.heap.size := Nat.lt_of_lt_of_le hlt c10.size
          refine hkk _ _ ?_
          refine rlight_r5 n m a b c d e k p l cp br w hN hv g5 (w7.heap.size) va (.slice (some ⟨w8.heap.size, 0, none⟩) 3 3) hva ⟨_, _, _, rfl⟩ _ _ _ _ _ _ _ _ _ _ _ _ _ _ _ _ _ _ _ _ _ _ _ _ _ _ _ _ _ _ _ _ _ _ _ _ _ _ _ _ (Lib.hid (((hbw.setCell (p := ⟨w7.heap.size, 0, none⟩) (show w.heap.size ≤ w7.heap.size by omega) _).setCell (p := ⟨w7.heap.size, 1, none⟩) (show w.heap.size ≤ w7.heap.size by omega) _).setCell (p := ⟨w7.heap.size, 2, none⟩) (show w.heap.size ≤ w7.heap.size by omega) _)) ⟨h5.1, by rw [World.size_setCell, World.size_setCell, World.size_setCell]; omega⟩ ⟨by omega, by rw [World.size_setCell, World.size_setCell, World.size_setCell]; omega⟩ hHeld.1 (three_same p0 p1 p2 _ _ _) hHeld.2.1 (Lib.hid (zero_three HZ.out b10 (by omega) (by omega) _ _ _)) ?_ ?_
          · exact (keep_before (HA.out.below b7) hbn _ _ _)
          · exact (keep_after HR_10.out hlt _ _ _).mono (by omega)
      · go_simp
        have hal : ∃ W, w6.alloc (.cells #[.bool false, .string ⟨#[]⟩, .slice none 0 0] 80) = W := ⟨_, rfl⟩
        obtain ⟨w7, hal⟩ := hal
        have hba : Below w6.heap.size w6 w7 := by rw [← hal]; exact (Below.refl _ _).alloc (Nat.le_refl _) _
        have b7 : Below w4.heap.size w4 w7 := b6.trans (hba.mono b6.size)
        have c7 : Below w7.heap.size w7 w7 := Below.refl _ _
        have hzi : w4.heap.size ≤ w6.heap.size := b6.size
        have hlt : w6.heap.size < w7.heap.size := by rw [← hal]; simp
        have HZZ := Lib.hid (fun W (hb : Below w7.heap.size w7 W) => zero_cells (w := w6) (W := W) (by rw [hal]; exact hb))
        rw [hal]
        clear hal
        refine hK.out _ _ (HS.out _ b7) (fun hHeld => ?_)
        clear hK K
        try simp only [Act.put, List.getElem_toArray, List.getElem_cons_zero, List.getElem_cons_succ, List.setIfInBounds_toArray, List.set_cons_zero, List.set_cons_succ]
        refine wpAnyH_ready (rs := [8]) (by kernel_rfl) (by simp) ?_
        refine AllReadyH.cons rfl (fun K hK => ?_) AllReadyH.nil
        go_simp
        go_at_call 73
        refine (HK.out _).mono ?_
        rintro z w8 ⟨rfl, hb8⟩
        have b8 : Below w4.heap.size w4 w8 := b7.trans (hb8.mono b7.size)
        have c8 : Below w7.heap.size w7 w8 := c7.trans (hb8.mono c7.size)
        clear hb8
        refine hK.out _ _ (HS.out _ b8) (fun hHeld => ?_)
        clear hK K
        try simp only [Act.put, List.getElem_toArray, List.getElem_cons_zero, List.getElem_cons_succ, List.setIfInBounds_toArray, List.set_cons_zero, List.set_cons_succ]
        refine wpAnyH_ready (rs := [9]) (by kernel_rfl) (by simp) ?_
        refine AllReadyH.cons rfl (fun K hK => ?_) AllReadyH.nil
        go_simp
        have hal : ∃ W, w8.alloc (.cells #[.bool false, .string d, .slice none 0 0, .bool false, .string e, .slice none 0 0, .bool false, .string ⟨(num k).toArray⟩, .slice none 0 0] 80) = W := ⟨_, rfl⟩
        obtain ⟨w9, hal⟩ := hal
        have hb9 : Below w8.heap.size w8 w9 := by rw [← hal]; exact (Below.refl _ _).alloc (Nat.le_refl _) _
        have b9 : Below w4.heap.size w4 w9 := b8.trans (hb9.mono b8.size)
        have c9 : Below w7.heap.size w7 w9 := c8.trans (hb9.mono c8.size)
        have HR_9 := Lib.hid (show RIn w9 w7.heap.size (.slice (some ⟨w8.heap.size, 0, none⟩) 3 3) [itT d, itT e, itN k] from by
          rw [← hal]
          refine reads_new w8 (w7.heap.size) 3 [(itT d, .slice none 0 0), (itT e, .slice none 0 0), (itN k, .slice none 0 0)] rfl c8.size (fun q hq => ?_)
          simp only [List.mem_cons, List.not_mem_nil, or_false] at hq
          rcases hq with rfl | rfl | rfl
          · exact RIn.nil _ _
          · exact RIn.nil _ _
          · exact RIn.nil _ _)
        rw [hal]
        clear hal hb9
        refine hK.out _ _ (HS.out _ b9) (fun hHeld => ?_)
        clear hK K
        try simp only [Act.put, List.getElem_toArray, List.getElem_cons_zero, List.getElem_cons_succ, List.setIfInBounds_toArray, List.set_cons_zero, List.set_cons_succ]
        refine wpAnyH_ready (rs := [10]) (by kernel_rfl) (by simp) ?_
        refine AllReadyH.cons rfl (fun K hK => ?_) AllReadyH.nil
        go_simp
        go_at_call 67
        refine (rlist_any _ _ _ _).mono ?_
        rintro z w10 ⟨rfl, hb10⟩
        have b10 : Below w4.heap.size w4 w10 := b9.trans (hb10.mono b9.size)
        have c10 : Below w7.heap.size w7 w10 := c9.trans (hb10.mono c9.size)
        have HR_10 := Lib.hid (HR_9.out.below hb10)
        clear HR_9
        clear hb10
        refine hK.out _ _ (HS.out _ b10) (fun hHeld => ?_)
        clear hK K
        try simp only [Act.put, List.getElem_toArray, List.getElem_cons_zero, List.getElem_cons_succ, List.setIfInBounds_toArray, List.set_cons_zero, List.set_cons_succ]
        obtain ⟨p0, p1, p2, f0, f1, f2⟩ := HZZ.out _ c10
        refine wpAnyH_ready (rs := [12]) (by kernel_rfl) (by simp) ?_
        refine AllReadyH.cons rfl (fun K hK => ?_) AllReadyH.nil
        go_simp
        refine hK.out _ _ (⟨⟨three_other hHeld.1.1 (by omega) _ _ _, three_other hHeld.1.2.1 (by omega) _ _ _, three_other hHeld.1.2.2 (by omega) _ _ _⟩, three_other hHeld.2.1 (by omega) _ _ _, three_other hHeld.2.2.1 (by omega) _ _ _, three_other hHeld.2.2.2.1 (by omega) _ _ _, three_other hHeld.2.2.2.2 (by omega) _ _ _⟩) (fun hHeld => ?_)
        clear hK K
        try simp only [Act.put, List.getElem_toArray, List.getElem_cons_zero, List.getElem_cons_succ, List.setIfInBounds_toArray, List.set_cons_zero, List.set_cons_succ]
        refine wpAnyH_done (by kernel_rfl) ?_ 0
        have hbn : Below w6.heap.size w6 w10 := hba.trans (c10.mono hba.size)
        have hbw : Below w.heap.size w w10 := HB4.out.trans (b10.mono HB4.out.size)
        have hsz : w6.heap.size < w10.heap.size := Nat.lt_of_lt_of_le hlt c10.size
        refine hkk _ _ ?_
        refine rlight_r5 n m a b c d e k p l cp br w hN hv g5 (w6.heap.size) va (.slice (some ⟨w8.heap.size, 0, none⟩) 3 3) hva ⟨_, _, _, rfl⟩ _ _ _ _ _ _ _ _ _ _ _ _ _ _ _ _ _ _ _ _ _ _ _ _ _ _ _ _ _ _ _ _ _ _ _ _ _ _ _ _ (Lib.hid (((hbw.setCell (p := ⟨w6.heap.size, 0, none⟩) (show w.heap.size ≤ w6.heap.size by omega) _).setCell (p := ⟨w6.heap.size, 1, none⟩) (show w.heap.size ≤ w6.heap.size by omega) _).setCell (p := ⟨w6.heap.size, 2, none⟩) (show w.heap.size ≤ w6.heap.size by omega) _)) ⟨h5.1, by rw [World.size_setCell, World.size_setCell, World.size_setCell]; omega⟩ ⟨by omega, by rw [World.size_setCell, World.size_setCell, World.size_setCell]; omega⟩ hHeld.1 (three_same p0 p1 p2 _ _ _) hHeld.2.1 (Lib.hid (zero_three HZ.out b10 (by omega) (by omega) _ _ _)) ?_ ?_
        · exact (keep_before (HA.out.below b6) hbn _ _ _)
        · exact (keep_after HR_10.out hlt _ _ _).mono (by omega)
    · go_simp
      have hal : ∃ W, w5.alloc (.cells #[.bool false, .string ⟨#[]⟩, .slice none 0 0] 80) = W := ⟨_, rfl⟩
      obtain ⟨w6, hal⟩ := hal
      have hba : Below w5.heap.size w5 w6 := by rw [← hal]; exact (Below.refl _ _).alloc (Nat.le_refl _) _
      have b6 : Below w4.heap.size w4 w6 := b5.trans (hba.mono b5.size)
      have c6 : Below w6.heap.size w6 w6 := Below.refl _ _
      have hzi : w4.heap.size ≤ w5.heap.size := b5.size
      have hlt : w5.heap.size < w6.heap.size := by rw [← hal]; simp
      have HZZ := Lib.hid (fun W (hb : Below w6.heap.size w6 W) => zero_cells (w := w5) (W := W) (by rw [hal]; exact hb))
      rw [hal]
      clear hal
      refine hK.out _ _ (HS.out _ b6) (fun hHeld => ?_)
      clear hK K
      try simp only [Act.put, List.getElem_toArray, List.getElem_cons_zero, List.getElem_cons_succ, List.setIfInBounds_toArray, List.set_cons_zero, List.set_cons_succ]
      refine wpAnyH_ready (rs := [5]) (by kernel_rfl) (by simp) ?_
      refine AllReadyH.cons rfl (fun K hK => ?_) AllReadyH.nil
      go_simp
      go_at_call 74
      refine (rtext_any e _).mono ?_
      rintro z w7 ⟨rfl, hb7⟩
      have b7 : Below w4.heap.size w4 w7 := b6.trans (hb7.mono b6.size)
      have c7 : Below w6.heap.size w6 w7 := c6.trans (hb7.mono c6.size)
      clear hb7
      refine hK.out _ _ (HS.out _ b7) (fun hHeld => ?_)
      clear hK K
      try simp only [Act.put, List.getElem_toArray, List.getElem_cons_zero, List.getElem_cons_succ, List.setIfInBounds_toArray, List.set_cons_zero, List.set_cons_succ]
      refine wpAnyH_ready (rs := [8]) (by kernel_rfl) (by simp) ?_
      refine AllReadyH.cons rfl (fun K hK => ?_) AllReadyH.nil
      go_simp
      go_at_call 73
      refine (HK.out _).mono ?_
      rintro z w8 ⟨rfl, hb8⟩
      have b8 : Below w4.heap.size w4 w8 := b7.trans (hb8.mono b7.size)
      have c8 : Below w6.heap.size w6 w8 := c7.trans (hb8.mono c7.size)
      clear hb8
      refine hK.out _ _ (HS.out _ b8) (fun hHeld => ?_)
      clear hK K
      try simp only [Act.put, List.getElem_toArray, List.getElem_cons_zero, List.getElem_cons_succ, List.setIfInBounds_toArray, List.set_cons_zero, List.set_cons_succ]
      refine wpAnyH_ready (rs := [9]) (by kernel_rfl) (by simp) ?_
      refine AllReadyH.cons rfl (fun K hK => ?_) AllReadyH.nil
      go_simp
      have hal : ∃ W, w8.alloc (.cells #[.bool false, .string d, .slice none 0 0, .bool false, .string e, .slice none 0 0, .bool false, .string ⟨(num k).toArray⟩, .slice none 0 0] 80) = W := ⟨_, rfl⟩
      obtain ⟨w9, hal⟩ := hal
      have hb9 : Below w8.heap.size w8 w9 := by rw [← hal]; exact (Below.refl _ _).alloc (Nat.le_refl _) _
      have b9 : Below w4.heap.size w4 w9 := b8.trans (hb9.mono b8.size)
      have c9 : Below w6.heap.size w6 w9 := c8.trans (hb9.mono c8.size)
      have HR_9 := Lib.hid (show RIn w9 w6.heap.size (.slice (some ⟨w8.heap.size, 0, none⟩) 3 3) [itT d, itT e, itN k] from by
        rw [← hal]
        refine reads_new w8 (w6.heap.size) 3 [(itT d, .slice none 0 0), (itT e, .slice none 0 0), (itN k, .slice none 0 0)] rfl c8.size (fun q hq => ?_)
        simp only [List.mem_cons, List.not_mem_nil, or_false] at hq
        rcases hq with rfl | rfl | rfl
        · exact RIn.nil _ _
        · exact RIn.nil _ _
        · exact RIn.nil _ _)
      rw [hal]
      clear hal hb9
      refine hK.out _ _ (HS.out _ b9) (fun hHeld => ?_)
      clear hK K
      try simp only [Act.put, List.getElem_toArray, List.getElem_cons_zero, List.getElem_cons_succ, List.setIfInBounds_toArray, List.set_cons_zero, List.set_cons_succ]
      refine wpAnyH_ready (rs := [10]) (by kernel_rfl) (by simp) ?_
      refine AllReadyH.cons rfl (fun K hK => ?_) AllReadyH.nil
      go_simp
      go_at_call 67
      refine (rlist_any _ _ _ _).mono ?_
      rintro z w10 ⟨rfl, hb10⟩
      have b10 : Below w4.heap.size w4 w10 := b9.trans (hb10.mono b9.size)
      have c10 : Below w6.heap.size w6 w10 := c9.trans (hb10.mono c9.size)
      have HR_10 := Lib.hid (HR_9.out.below hb10)
      clear HR_9
      clear hb10
      refine hK.out _ _ (HS.out _ b10) (fun hHeld => ?_)
      clear hK K
      try simp only [Act.put, List.getElem_toArray, List.getElem_cons_zero, List.getElem_cons_succ, List.setIfInBounds_toArray, List.set_cons_zero, List.set_cons_succ]
      obtain ⟨p0, p1, p2, f0, f1, f2⟩ := HZZ.out _ c10
      refine wpAnyH_ready (rs := [12]) (by kernel_rfl) (by simp) ?_
      refine AllReadyH.cons rfl (fun K hK => ?_) AllReadyH.nil
      go_simp
      refine hK.out _ _ (⟨⟨three_other hHeld.1.1 (by omega) _ _ _, three_other hHeld.1.2.1 (by omega) _ _ _, three_other hHeld.1.2.2 (by omega) _ _ _⟩, three_other hHeld.2.1 (by omega) _ _ _, three_other hHeld.2.2.1 (by omega) _ _ _, three_other hHeld.2.2.2.1 (by omega) _ _ _, three_other hHeld.2.2.2.2 (by omega) _ _ _⟩) (fun hHeld => ?_)
      clear hK K
      try simp only [Act.put, List.getElem_toArray, List.getElem_cons_zero, List.getElem_cons_succ, List.setIfInBounds_toArray, List.set_cons_zero, List.set_cons_succ]
      refine wpAnyH_done (by kernel_rfl) ?_ 0
      have hbn : Below w5.heap.size w5 w10 := hba.trans (c10.mono hba.size)
      have hbw : Below w.heap.size w w10 := HB4.out.trans (b10.mono HB4.out.size)
      have hsz : w5.heap.size < w10.heap.size := Nat.lt_of_lt_of_le hlt c10.size
      refine hkk _ _ ?_
      refine rlight_r5 n m a b c d e k p l cp br w hN hv g5 (w5.heap.size) va (.slice (some ⟨w8.heap.size, 0, none⟩) 3 3) hva ⟨_, _, _, rfl⟩ _ _ _ _ _ _ _ _ _ _ _ _ _ _ _ _ _ _ _ _ _ _ _ _ _ _ _ _ _ _ _ _ _ _ _ _ _ _ _ _ (Lib.hid (((hbw.setCell (p := ⟨w5.heap.size, 0, none⟩) (show w.heap.size ≤ w5.heap.size by omega) _).setCell (p := ⟨w5.heap.size, 1, none⟩) (show w.heap.size ≤ w5.heap.size by omega) _).setCell (p := ⟨w5.heap.size, 2, none⟩) (show w.heap.size ≤ w5.heap.size by omega) _)) ⟨h5.1, by rw [World.size_setCell, World.size_setCell, World.size_setCell]; omega⟩ ⟨by omega, by rw [World.size_setCell, World.size_setCell, World.size_setCell]; omega⟩ hHeld.1 (three_same p0 p1 p2 _ _ _) hHeld.2.1 (Lib.hid (zero_three HZ.out b10 (by omega) (by omega) _ _ _)) ?_ ?_
      · exact (keep_before (HA.out.below b5) hbn _ _ _)
      · exact (keep_after HR_10.out hlt _ _ _).mono (by omega)
  · go_simp
    have hal : ∃ W, (w4.alloc (.cells #[.bool false, .string ⟨#[]⟩, .slice none 0 0] 80)).drew = W := ⟨_, rfl⟩
    obtain ⟨w5, hal⟩ := hal
    have hba : Below w4.heap.size w4 w5 := by rw [← hal]; exact ((Below.refl _ _).alloc (Nat.le_refl _) _).drew
    have b5 : Below w4.heap.size w4 w5 := hba
    have c5 : Below w5.heap.size w5 w5 := Below.refl _ _
    have hzi : w4.heap.size ≤ w4.heap.size := Nat.le_refl _
    have hlt : w4.heap.size < w5.heap.size := by rw [← hal]; show w4.heap.size < (w4.alloc _).heap.size; simp
    have HZZ := Lib.hid (fun W (hb : Below w5.heap.size w5 W) => zero_cells (w := w4) (W := W) (by rw [← hal] at hb; exact (Below.refl _ _).drew.trans hb))
    rw [hal]
    clear hal
    refine hK.out _ _ (HS.out _ b5) (fun hHeld => ?_)
    clear hK K
    try simp only [Act.put, List.getElem_toArray, List.getElem_cons_zero, List.getElem_cons_succ, List.setIfInBounds_toArray, List.set_cons_zero, List.set_cons_succ]
    refine wpAnyH_ready (rs := [2]) (by kernel_rfl) (by simp) ?_
    refine AllReadyH.cons rfl (fun K hK => ?_) AllReadyH.nil
    go_simp
    go_at_call 74
    refine (rtext_any d _).mono ?_
    rintro z w6 ⟨rfl, hb6⟩
    have b6 : Below w4.heap.size w4 w6 := b5.trans (hb6.mono b5.size)
    have c6 : Below w5.heap.size w5 w6 := c5.trans (hb6.mono c5.size)
    clear hb6
    refine hK.out _ _ (HS.out _ b6) (fun hHeld => ?_)
    clear hK K
    try simp only [Act.put, List.getElem_toArray, List.getElem_cons_zero, List.getElem_cons_succ, List.setIfInBounds_toArray, List.set_cons_zero, List.set_cons_succ]
    refine wpAnyH_ready (rs := [5]) (by kernel_rfl) (by simp) ?_
    refine AllReadyH.cons rfl (fun K hK => ?_) AllReadyH.nil
    go_simp
    go_at_call 74
    refine (rtext_any e _).mono ?_
    rintro z w7 ⟨rfl, hb7⟩
    have b7 : Below w4.heap.size w4 w7 := b6.trans (hb7.mono b6.size)
    have c7 : Below w5.heap.size w5 w7 := c6.trans (hb7.mono c6.size)
    clear hb7
    refine hK.out _ _ (HS.out _ b7) (fun hHeld => ?_)
    clear hK K
    try simp only [Act.put, List.getElem_toArray, List.getElem_cons_zero, List.getElem_cons_succ, List.setIfInBounds_toArray, List.set_cons_zero, List.set_cons_succ]
    refine wpAnyH_ready (rs := [8]) (by kernel_rfl) (by simp) ?_
    refine AllReadyH.cons rfl (fun K hK => ?_) AllReadyH.nil
    go_simp
    go_at_call 73
    refine (HK.out _).mono ?_
    rintro z w8 ⟨rfl, hb8⟩
    have b8 : Below w4.heap.size w4 w8 := b7.trans (hb8.mono b7.size)
    have c8 : Below w5.heap.size w5 w8 := c7.trans (hb8.mono c7.size)
    clear hb8
    refine hK.out _ _ (HS.out _ b8) (fun hHeld => ?_)
    clear hK K
    try simp only [Act.put, List.getElem_toArray, List.getElem_cons_zero, List.getElem_cons_succ, List.setIfInBounds_toArray, List.set_cons_zero, List.set_cons_succ]
    refine wpAnyH_ready (rs := [9]) (by kernel_rfl) (by simp) ?_
    refine AllReadyH.cons rfl (fun K hK => ?_) AllReadyH.nil
    go_simp
    have hal : ∃ W, w8.alloc (.cells #[.bool false, .string d, .slice none 0 0, .bool false, .string e, .slice none 0 0, .bool false, .string ⟨(num k).toArray⟩, .slice none 0 0] 80) = W := ⟨_, rfl⟩
    obtain ⟨w9, hal⟩ := hal
    have hb9 : Below w8.heap.size w8 w9 := by rw [← hal]; exact (Below.refl _ _).alloc (Nat.le_refl _) _
    have b9 : Below w4.heap.size w4 w9 := b8.trans (hb9.mono b8.size)
    have c9 : Below w5.heap.size w5 w9 := c8.trans (hb9.mono c8.size)
    have HR_9 := Lib.hid (show RIn w9 w5.heap.size (.slice (some ⟨w8.heap.size, 0, none⟩) 3 3) [itT d, itT e, itN k] from by
      rw [← hal]
      refine reads_new w8 (w5.heap.size) 3 [(itT d, .slice none 0 0), (itT e, .slice none 0 0), (itN k, .slice none 0 0)] rfl c8.size (fun q hq => ?_)
      simp only [List.mem_cons, List.not_mem_nil, or_false] at hq
      rcases hq with rfl | rfl | rfl
      · exact RIn.nil _ _
      · exact RIn.nil _ _
      · exact RIn.nil _ _)
    rw [hal]
    clear hal hb9
    refine hK.out _ _ (HS.out _ b9) (fun hHeld => ?_)
    clear hK K
    try simp only [Act.put, List.getElem_toArray, List.getElem_cons_zero, List.getElem_cons_succ, List.setIfInBounds_toArray, List.set_cons_zero, List.set_cons_succ]
    refine wpAnyH_ready (rs := [10]) (by kernel_rfl) (by simp) ?_
    refine AllReadyH.cons rfl (fun K hK => ?_) AllReadyH.nil
    go_simp
    go_at_call 67
    refine (rlist_any _ _ _ _).mono ?_
    rintro z w10 ⟨rfl, hb10⟩
    have b10 : Below w4.heap.size w4 w10 := b9.trans (hb10.mono b9.size)
    have c10 : Below w5.heap.size w5 w10 := c9.trans (hb10.mono c9.size)
    have HR_10 := Lib.hid (HR_9.out.below hb10)
    clear HR_9
    clear hb10
    refine hK.out _ _ (HS.out _ b10) (fun hHeld => ?_)
    clear hK K
    try simp only [Act.put, List.getElem_toArray, List.getElem_cons_zero, List.getElem_cons_succ, List.setIfInBounds_toArray, List.set_cons_zero, List.set_cons_succ]
    obtain ⟨p0, p1, p2, f0, f1, f2⟩ := HZZ.out _ c10
    refine wpAnyH_ready (rs := [12]) (by kernel_rfl) (by simp) ?_
    refine AllReadyH.cons rfl (fun K hK => ?_) AllReadyH.nil
    go_simp
    refine hK.out _ _ (⟨⟨three_other hHeld.1.1 (by omega) _ _ _, three_other hHeld.1.2.1 (by omega) _ _ _, three_other hHeld.1.2.2 (by omega) _ _ _⟩, three_other hHeld.2.1 (by omega) _ _ _, three_other hHeld.2.2.1 (by omega) _ _ _, three_other hHeld.2.2.2.1 (by omega) _ _ _, three_other hHeld.2.2.2.2 (by omega) _ _ _⟩) (fun hHeld => ?_)
    clear hK K
    try simp only [Act.put, List.getElem_toArray, List.getElem_cons_zero, List.getElem_cons_succ, List.setIfInBounds_toArray, List.set_cons_zero, List.set_cons_succ]
    refine wpAnyH_done (by kernel_rfl) ?_ 0
    have hbn : Below w4.heap.size w4 w10 := hba.trans (c10.mono hba.size)
    have hbw : Below w.heap.size w w10 := HB4.out.trans (b10.mono HB4.out.size)
    have hsz : w4.heap.size < w10.heap.size := Nat.lt_of_lt_of_le hlt c10.size
    refine hkk _ _ ?_
    refine rlight_r5 n m a b c d e k p l cp br w hN hv g5 (w4.heap.size) va (.slice (some ⟨w8.heap.size, 0, none⟩) 3 3) hva ⟨_, _, _, rfl⟩ _ _ _ _ _ _ _ _ _ _ _ _ _ _ _ _ _ _ _ _ _ _ _ _ _ _ _ _ _ _ _ _ _ _ _ _ _ _ _ _ (Lib.hid (((hbw.setCell (p := ⟨w4.heap.size, 0, none⟩) (show w.heap.size ≤ w4.heap.size by omega) _).setCell (p := ⟨w4.heap.size, 1, none⟩) (show w.heap.size ≤ w4.heap.size by omega) _).setCell (p := ⟨w4.heap.size, 2, none⟩) (show w.heap.size ≤ w4.heap.size by omega) _)) ⟨h5.1, by rw [World.size_setCell, World.size_setCell, World.size_setCell]; omega⟩ ⟨by omega, by rw [World.size_setCell, World.size_setCell, World.size_setCell]; omega⟩ hHeld.1 (three_same p0 p1 p2 _ _ _) hHeld.2.1 (Lib.hid (zero_three HZ.out b10 (by omega) (by omega) _ _ _)) ?_ ?_
    · exact (keep_before HA.out hbn _ _ _)
    · exact (keep_after HR_10.out hlt _ _ _).mono (by omega)
end Go.Proofs.YtfbopnebfdkhdaaDoor

/- Contract of pharosref13.light: a Light's item. -/
namespace Go.Proofs.YtfbopnebfdkhdaaDoor
open Go.RowKit Go.Shelf Go.Lib
attribute [local go_sem] Oper.semAt_some

set_option maxRecDepth 100000 in
set_option maxHeartbeats 40000000 in
theorem ritLight_any (n m : Nat) (a b c d e : ByteArray) (k : Nat) (v : Value) (br : List ByteArray) (w : World) (hn : n < 18446744073709551616) (hm : m < 18446744073709551616) (hk : k < 18446744073709551616) (hv : Strs w v br) (hN : br.length ≤ 1048576) :
    Calls Tryd.prog 68 #[.agg #[.int .u64 n, .int .u64 m, .string a, .string b, .string c, .string d, .string e, .int .u64 k, v]] w (GivesL w (lightItems n m a b c d e k br)) := by
  have HV := Lib.hid hv
  obtain ⟨p, cp, rfl, -⟩ := hv
  have HVV := HV
  obtain ⟨l, hl⟩ : ∃ l, br.length = l := ⟨_, rfl⟩
  rw [hl] at HVV ⊢
  have HN := Lib.hid (fun W => ritNumber_any n W hn)
  have HM := Lib.hid (fun W => ritNumber_any m W hm)
  clear hl hn hm HV
  go_enter Tryd.func68, Tryd.ntmps68
  go_wp2_with fail
  rename_i hkk
  refine stashW (fun w4 hw4 => ?_)
  have HB4 := Lib.hid (show Below w.heap.size w w4 from by
    rw [hw4]
    repeat' (first | exact Below.refl _ _ | refine Below.drew ?_ | refine Below.setCell ?_ (show w.heap.size ≤ _ from by simp) _ | refine Below.alloc ?_ (by simp <;> omega) _))
  have hz4 : w.heap.size + 4 ≤ w4.heap.size := by rw [hw4]; simp
  have q0 : w4.cell? ⟨w.heap.size + 2, 0, none⟩ = some (.int .u64 n) := by rw [hw4]; simp [go_sem]
  have q1 : w4.cell? ⟨w.heap.size + 2, 1, none⟩ = some (.int .u64 m) := by rw [hw4]; simp [go_sem]
  have q2 : w4.cell? ⟨w.heap.size + 2, 2, none⟩ = some (.string a) := by rw [hw4]; simp [go_sem]
  have q3 : w4.cell? ⟨w.heap.size + 2, 3, none⟩ = some (.string b) := by rw [hw4]; simp [go_sem]
  have q4 : w4.cell? ⟨w.heap.size + 2, 4, none⟩ = some (.string c) := by rw [hw4]; simp [go_sem]
  have q5 : w4.cell? ⟨w.heap.size + 3, 0, none⟩ = some (.string d) := by rw [hw4]; simp [go_sem]
  have q6 : w4.cell? ⟨w.heap.size + 3, 1, none⟩ = some (.string e) := by rw [hw4]; simp [go_sem]
  have q7 : w4.cell? ⟨w.heap.size + 3, 2, none⟩ = some (.int .u64 k) := by rw [hw4]; simp [go_sem]
  have q8 : w4.cell? ⟨w.heap.size, 8, none⟩ = some (.slice p l cp) := by rw [hw4]; simp [go_sem]
  have HZ := Lib.hid (show (w4.cell? ⟨w.heap.size + 1, 0, none⟩ = some (.bool false) ∧ w4.cell? ⟨w.heap.size + 1, 1, none⟩ = some (.string ⟨#[]⟩) ∧ w4.cell? ⟨w.heap.size + 1, 2, none⟩ = some (.slice none 0 0)) ∧ (∀ j, w4.frozen? ⟨w.heap.size + 1, j, none⟩ = false) from by
    rw [hw4]
    refine ⟨⟨by simp [go_sem], by simp [go_sem], by simp [go_sem]⟩, fun j => by simp [go_sem]⟩)
  have HS := Lib.hid (fun W (hb : Below w4.heap.size w4 W) => (show W.cell? ⟨w.heap.size + 2, 0, none⟩ = some (.int .u64 n) ∧ W.cell? ⟨w.heap.size + 2, 1, none⟩ = some (.int .u64 m) ∧ W.cell? ⟨w.heap.size + 2, 2, none⟩ = some (.string a) ∧ W.cell? ⟨w.heap.size + 2, 3, none⟩ = some (.string b) ∧ W.cell? ⟨w.heap.size + 2, 4, none⟩ = some (.string c) ∧ W.cell? ⟨w.heap.size + 3, 0, none⟩ = some (.string d) ∧ W.cell? ⟨w.heap.size + 3, 1, none⟩ = some (.string e) ∧ W.cell? ⟨w.heap.size + 3, 2, none⟩ = some (.int .u64 k) ∧ W.cell? ⟨w.heap.size, 8, none⟩ = some (.slice p l cp) from ⟨(hb.cell (p := ⟨w.heap.size + 2, 0, none⟩) (by dsimp only; omega)).trans q0, (hb.cell (p := ⟨w.heap.size + 2, 1, none⟩) (by dsimp only; omega)).trans q1, (hb.cell (p := ⟨w.heap.size + 2, 2, none⟩) (by dsimp only; omega)).trans q2, (hb.cell (p := ⟨w.heap.size + 2, 3, none⟩) (by dsimp only; omega)).trans q3, (hb.cell (p := ⟨w.heap.size + 2, 4, none⟩) (by dsimp only; omega)).trans q4, (hb.cell (p := ⟨w.heap.size + 3, 0, none⟩) (by dsimp only; omega)).trans q5, (hb.cell (p := ⟨w.heap.size + 3, 1, none⟩) (by dsimp only; omega)).trans q6, (hb.cell (p := ⟨w.heap.size + 3, 2, none⟩) (by dsimp only; omega)).trans q7, (hb.cell (p := ⟨w.heap.size, 8, none⟩) (by dsimp only; omega)).trans q8⟩))
  clear hw4 q0 q1 q2 q3 q4 q5 q6 q7 q8
  have b4 : Below w4.heap.size w4 w4.drew := (Below.refl _ _).drew
  refine wp_region_held_drew (S := (fun W => W.cell? ⟨w.heap.size + 2, 0, none⟩ = some (.int .u64 n) ∧ W.cell? ⟨w.heap.size + 2, 1, none⟩ = some (.int .u64 m) ∧ W.cell? ⟨w.heap.size + 2, 2, none⟩ = some (.string a) ∧ W.cell? ⟨w.heap.size + 2, 3, none⟩ = some (.string b) ∧ W.cell? ⟨w.heap.size + 2, 4, none⟩ = some (.string c) ∧ W.cell? ⟨w.heap.size + 3, 0, none⟩ = some (.string d) ∧ W.cell? ⟨w.heap.size + 3, 1, none⟩ = some (.string e) ∧ W.cell? ⟨w.heap.size + 3, 2, none⟩ = some (.int .u64 k) ∧ W.cell? ⟨w.heap.size, 8, none⟩ = some (.slice p l cp))) (by kernel_rfl) (HS.out _ b4) (fun hHeld => ?_)
  refine wpAnyH_take (i := 0) (v := ?_) rfl (by kernel_rfl) (by kernel_rfl) (by kernel_rfl) (fun _ _ _ h => h) (.inl ⟨by rfl, ?_⟩) (by assumption) ?_
  rotate_left 1
  · intro w0 hSw
    go_simp <;> with_reducible rfl
  try simp only [Act.put, List.getElem_toArray, List.getElem_cons_zero, List.setIfInBounds_toArray, List.set_cons_zero, List.set_cons_succ]
  refine wpAnyH_take (i := 1) (v := ?_) rfl (by kernel_rfl) (by kernel_rfl) (by kernel_rfl) (fun _ _ _ h => h) (.inl ⟨by rfl, ?_⟩) (by assumption) ?_
  rotate_left 1
  · intro w0 hSw
    obtain ⟨z0, z1, z2, z3, z4, z5, z6, z7, z8⟩ := hSw
    go_simp <;> with_reducible rfl
  try simp only [Act.put, List.getElem_toArray, List.getElem_cons_zero, List.getElem_cons_succ, List.setIfInBounds_toArray, List.set_cons_zero, List.set_cons_succ]
  refine wpAnyH_take (i := 3) (v := ?_) rfl (by kernel_rfl) (by kernel_rfl) (by kernel_rfl) (fun _ _ _ h => h) (.inl ⟨by rfl, ?_⟩) (by assumption) ?_
  rotate_left 1
  · intro w0 hSw
    go_simp <;> with_reducible rfl
  try simp only [Act.put, List.getElem_toArray, List.getElem_cons_zero, List.getElem_cons_succ, List.setIfInBounds_toArray, List.set_cons_zero, List.set_cons_succ]
  refine wpAnyH_take (i := 4) (v := ?_) rfl (by kernel_rfl) (by kernel_rfl) (by kernel_rfl) (fun _ _ _ h => h) (.inl ⟨by rfl, ?_⟩) (by assumption) ?_
  rotate_left 1
  · intro w0 hSw
    obtain ⟨z0, z1, z2, z3, z4, z5, z6, z7, z8⟩ := hSw
    go_simp <;> with_reducible rfl
  try simp only [Act.put, List.getElem_toArray, List.getElem_cons_zero, List.getElem_cons_succ, List.setIfInBounds_toArray, List.set_cons_zero, List.set_cons_succ]
  refine wpAnyH_take (i := 6) (v := ?_) rfl (by kernel_rfl) (by kernel_rfl) (by kernel_rfl) (fun _ _ _ h => h) (.inl ⟨by rfl, ?_⟩) (by assumption) ?_
  rotate_left 1
  · intro w0 hSw
    go_simp <;> with_reducible rfl
  try simp only [Act.put, List.getElem_toArray, List.getElem_cons_zero, List.getElem_cons_succ, List.setIfInBounds_toArray, List.set_cons_zero, List.set_cons_succ]
  refine wpAnyH_take (i := 7) (v := ?_) rfl (by kernel_rfl) (by kernel_rfl) (by kernel_rfl) (fun _ _ _ h => h) (.inl ⟨by rfl, ?_⟩) (by assumption) ?_
  rotate_left 1
  · intro w0 hSw
    obtain ⟨z0, z1, z2, z3, z4, z5, z6, z7, z8⟩ := hSw
    go_simp <;> with_reducible rfl
  try simp only [Act.put, List.getElem_toArray, List.getElem_cons_zero, List.getElem_cons_succ, List.setIfInBounds_toArray, List.set_cons_zero, List.set_cons_succ]
  refine wpAnyH_take (i := 9) (v := ?_) rfl (by kernel_rfl) (by kernel_rfl) (by kernel_rfl) (fun _ _ _ h => h) (.inl ⟨by rfl, ?_⟩) (by assumption) ?_
  rotate_left 1
  · intro w0 hSw
    go_simp <;> with_reducible rfl
  try simp only [Act.put, List.getElem_toArray, List.getElem_cons_zero, List.getElem_cons_succ, List.setIfInBounds_toArray, List.set_cons_zero, List.set_cons_succ]
  refine wpAnyH_take (i := 10) (v := ?_) rfl (by kernel_rfl) (by kernel_rfl) (by kernel_rfl) (fun _ _ _ h => h) (.inl ⟨by rfl, ?_⟩) (by assumption) ?_
  rotate_left 1
  · intro w0 hSw
    obtain ⟨z0, z1, z2, z3, z4, z5, z6, z7, z8⟩ := hSw
    go_simp <;> with_reducible rfl
  try simp only [Act.put, List.getElem_toArray, List.getElem_cons_zero, List.getElem_cons_succ, List.setIfInBounds_toArray, List.set_cons_zero, List.set_cons_succ]
  refine wpAnyH_take (i := 12) (v := ?_) rfl (by kernel_rfl) (by kernel_rfl) (by kernel_rfl) (fun _ _ _ h => h) (.inl ⟨by rfl, ?_⟩) (by assumption) ?_
  rotate_left 1
  · intro w0 hSw
    go_simp <;> with_reducible rfl
  try simp only [Act.put, List.getElem_toArray, List.getElem_cons_zero, List.getElem_cons_succ, List.setIfInBounds_toArray, List.set_cons_zero, List.set_cons_succ]
  refine wpAnyH_take (i := 13) (v := ?_) rfl (by kernel_rfl) (by kernel_rfl) (by kernel_rfl) (fun _ _ _ h => h) (.inl ⟨by rfl, ?_⟩) (by assumption) ?_
  rotate_left 1
  · intro w0 hSw
    obtain ⟨z0, z1, z2, z3, z4, z5, z6, z7, z8⟩ := hSw
    go_simp <;> with_reducible rfl
  try simp only [Act.put, List.getElem_toArray, List.getElem_cons_zero, List.getElem_cons_succ, List.setIfInBounds_toArray, List.set_cons_zero, List.set_cons_succ]
  refine wpAnyH_ready (rs := [2, 17]) (by kernel_rfl) (by simp) ?_
  refine AllReadyH.cons rfl (fun K hK => ?_) (AllReadyH.cons rfl (fun K hK => ?_) AllReadyH.nil)
  · go_simp
    go_at_call 73
    refine (HN.out _).mono ?_
    rintro z w5 ⟨rfl, hb5⟩
    have b5 : Below w4.heap.size w4 w5 := b4.trans (hb5.mono b4.size)
    clear hb5
    refine hK.out _ _ (HS.out _ b5) (fun hHeld => ?_)
    clear hK K
    try simp only [Act.put, List.getElem_toArray, List.getElem_cons_zero, List.getElem_cons_succ, List.setIfInBounds_toArray, List.set_cons_zero, List.set_cons_succ]
    refine wpAnyH_ready (rs := [5, 17]) (by kernel_rfl) (by simp) ?_
    refine AllReadyH.cons rfl (fun K hK => ?_) (AllReadyH.cons rfl (fun K hK => ?_) AllReadyH.nil)
    · go_simp
      go_at_call 73
      refine (HM.out _).mono ?_
      rintro z w6 ⟨rfl, hb6⟩
      have b6 : Below w4.heap.size w4 w6 := b5.trans (hb6.mono b5.size)
      clear hb6
      refine hK.out _ _ (HS.out _ b6) (fun hHeld => ?_)
      clear hK K
      try simp only [Act.put, List.getElem_toArray, List.getElem_cons_zero, List.getElem_cons_succ, List.setIfInBounds_toArray, List.set_cons_zero, List.set_cons_succ]
      refine wpAnyH_ready (rs := [8, 17]) (by kernel_rfl) (by simp) ?_
      refine AllReadyH.cons rfl (fun K hK => ?_) (AllReadyH.cons rfl (fun K hK => ?_) AllReadyH.nil)
      · go_simp
        go_at_call 74
        refine (rtext_any a _).mono ?_
        rintro z w7 ⟨rfl, hb7⟩
        have b7 : Below w4.heap.size w4 w7 := b6.trans (hb7.mono b6.size)
        clear hb7
        refine hK.out _ _ (HS.out _ b7) (fun hHeld => ?_)
        clear hK K
        try simp only [Act.put, List.getElem_toArray, List.getElem_cons_zero, List.getElem_cons_succ, List.setIfInBounds_toArray, List.set_cons_zero, List.set_cons_succ]
        refine wpAnyH_ready (rs := [11, 17]) (by kernel_rfl) (by simp) ?_
        refine AllReadyH.cons rfl (fun K hK => ?_) (AllReadyH.cons rfl (fun K hK => ?_) AllReadyH.nil)
        · go_simp
          go_at_call 74
          refine (rtext_any b _).mono ?_
          rintro z w8 ⟨rfl, hb8⟩
          have b8 : Below w4.heap.size w4 w8 := b7.trans (hb8.mono b7.size)
          clear hb8
          refine hK.out _ _ (HS.out _ b8) (fun hHeld => ?_)
          clear hK K
          try simp only [Act.put, List.getElem_toArray, List.getElem_cons_zero, List.getElem_cons_succ, List.setIfInBounds_toArray, List.set_cons_zero, List.set_cons_succ]
          refine wpAnyH_ready (rs := [14, 17]) (by kernel_rfl) (by simp) ?_
          refine AllReadyH.cons rfl (fun K hK => ?_) (AllReadyH.cons rfl (fun K hK => ?_) AllReadyH.nil)
          · go_simp
            go_at_call 74
            refine (rtext_any c _).mono ?_
            rintro z w9 ⟨rfl, hb9⟩
            have b9 : Below w4.heap.size w4 w9 := b8.trans (hb9.mono b8.size)
            clear hb9
            refine hK.out _ _ (HS.out _ b9) (fun hHeld => ?_)
            clear hK K
            try simp only [Act.put, List.getElem_toArray, List.getElem_cons_zero, List.getElem_cons_succ, List.setIfInBounds_toArray, List.set_cons_zero, List.set_cons_succ]
            refine wpAnyH_ready (rs := [15, 17]) (by kernel_rfl) (by simp) ?_
            refine AllReadyH.cons rfl (fun K hK => ?_) (AllReadyH.cons rfl (fun K hK => ?_) AllReadyH.nil)
            · go_simp
              have hal : ∃ W, w9.alloc (.cells #[.bool false, .string ⟨(num n).toArray⟩, .slice none 0 0, .bool false, .string ⟨(num m).toArray⟩, .slice none 0 0, .bool false, .string a, .slice none 0 0, .bool false, .string b, .slice none 0 0, .bool false, .string c, .slice none 0 0] 80) = W := ⟨_, rfl⟩
              obtain ⟨w10, hal⟩ := hal
              have hb10 : Below w9.heap.size w9 w10 := by rw [← hal]; exact (Below.refl _ _).alloc (Nat.le_refl _) _
              have b10 : Below w4.heap.size w4 w10 := b9.trans (hb10.mono b9.size)
              have HR_10 := Lib.hid (show RIn w10 w4.heap.size (.slice (some ⟨w9.heap.size, 0, none⟩) 5 5) [itN n, itN m, itT a, itT b, itT c] from by
                rw [← hal]
                refine reads_new w9 (w4.heap.size) 5 [(itN n, .slice none 0 0), (itN m, .slice none 0 0), (itT a, .slice none 0 0), (itT b, .slice none 0 0), (itT c, .slice none 0 0)] rfl b9.size (fun q hq => ?_)
                simp only [List.mem_cons, List.not_mem_nil, or_false] at hq
                rcases hq with rfl | rfl | rfl | rfl | rfl
                · exact RIn.nil _ _
                · exact RIn.nil _ _
                · exact RIn.nil _ _
                · exact RIn.nil _ _
                · exact RIn.nil _ _)
              rw [hal]
              clear hal hb10
              refine hK.out _ _ (HS.out _ b10) (fun hHeld => ?_)
              clear hK K
              try simp only [Act.put, List.getElem_toArray, List.getElem_cons_zero, List.getElem_cons_succ, List.setIfInBounds_toArray, List.set_cons_zero, List.set_cons_succ]
              refine wpAnyH_ready (rs := [16, 17]) (by kernel_rfl) (by simp) ?_
              refine AllReadyH.cons rfl (fun K hK => ?_) (AllReadyH.cons rfl (fun K hK => ?_) AllReadyH.nil)
              · go_simp
                go_at_call 67
                refine (rlist_any _ _ _ _).mono ?_
                rintro z w11 ⟨rfl, hb11⟩
                have b11 : Below w4.heap.size w4 w11 := b10.trans (hb11.mono b10.size)
                have HR_11 := Lib.hid (HR_10.out.below hb11)
                clear HR_10
                clear hb11
                refine hK.out _ _ (HS.out _ b11) (fun hHeld => ?_)
                clear hK K
                try simp only [Act.put, List.getElem_toArray, List.getElem_cons_zero, List.getElem_cons_succ, List.setIfInBounds_toArray, List.set_cons_zero, List.set_cons_succ]
                refine wpAnyH_ready (rs := [17]) (by kernel_rfl) (by simp) ?_
                refine AllReadyH.cons rfl (fun K hK => ?_) AllReadyH.nil
                go_simp
                have hal : ∃ W, w11.alloc (.cells #[.bool false, .string ⟨#[]⟩, .slice none 0 0] 80) = W := ⟨_, rfl⟩
                obtain ⟨w12, hal⟩ := hal
                have hba : Below w11.heap.size w11 w12 := by rw [← hal]; exact (Below.refl _ _).alloc (Nat.le_refl _) _
                have b12 : Below w4.heap.size w4 w12 := b11.trans (hba.mono b11.size)
                have c12 : Below w12.heap.size w12 w12 := Below.refl _ _
                have hzi : w4.heap.size ≤ w11.heap.size := b11.size
                have hlt : w11.heap.size < w12.heap.size := by rw [← hal]; simp
                have HZZ := Lib.hid (fun W (hb : Below w12.heap.size w12 W) => zero_cells (w := w11) (W := W) (by rw [hal]; exact hb))
                rw [hal]
                clear hal
                refine hK.out _ _ (HS.out _ b12) (fun hHeld => ?_)
                clear hK K
                try simp only [Act.put, List.getElem_toArray, List.getElem_cons_zero, List.getElem_cons_succ, List.setIfInBounds_toArray, List.set_cons_zero, List.set_cons_succ]
                obtain ⟨p0, p1, p2, f0, f1, f2⟩ := HZZ.out _ c12
                refine wpAnyH_ready (rs := [18]) (by kernel_rfl) (by simp) ?_
                refine AllReadyH.cons rfl (fun K hK => ?_) AllReadyH.nil
                go_simp
                refine hK.out _ _ (⟨three_other hHeld.1 (by omega) _ _ _, three_other hHeld.2.1 (by omega) _ _ _, three_other hHeld.2.2.1 (by omega) _ _ _, three_other hHeld.2.2.2.1 (by omega) _ _ _, three_other hHeld.2.2.2.2.1 (by omega) _ _ _, three_other hHeld.2.2.2.2.2.1 (by omega) _ _ _, three_other hHeld.2.2.2.2.2.2.1 (by omega) _ _ _, three_other hHeld.2.2.2.2.2.2.2.1 (by omega) _ _ _, three_other hHeld.2.2.2.2.2.2.2.2 (by omega) _ _ _⟩) (fun hHeld => ?_)
                clear hK K
                try simp only [Act.put, List.getElem_toArray, List.getElem_cons_zero, List.getElem_cons_succ, List.setIfInBounds_toArray, List.set_cons_zero, List.set_cons_succ]
                refine wpAnyH_done (by kernel_rfl) ?_ 0
                have hbn : Below w11.heap.size w11 w12 := hba.trans (c12.mono hba.size)
                have hbw : Below w.heap.size w w12 := HB4.out.trans (b12.mono HB4.out.size)
                have hsz : w11.heap.size < w12.heap.size := Nat.lt_of_lt_of_le hlt c12.size
                refine hkk _ _ ?_
                refine rlight_r4 n m a b c d e k p l cp br w hN HVV.out hk (w11.heap.size) (.slice (some ⟨w9.heap.size, 0, none⟩) 5 5) ⟨_, _, _, rfl⟩ _ _ _ _ _ _ _ _ _ _ _ _ _ _ _ _ _ _ _ _ _ _ _ _ _ _ _ _ _ _ _ _ _ _ _ _ _ _ _ _ _ (Lib.hid (((hbw.setCell (p := ⟨w11.heap.size, 0, none⟩) (show w.heap.size ≤ w11.heap.size by omega) _).setCell (p := ⟨w11.heap.size, 1, none⟩) (show w.heap.size ≤ w11.heap.size by omega) _).setCell (p := ⟨w11.heap.size, 2, none⟩) (show w.heap.size ≤ w11.heap.size by omega) _)) ⟨by omega, by rw [World.size_setCell, World.size_setCell, World.size_setCell]; omega⟩ (by rw [World.size_setCell, World.size_setCell, World.size_setCell]; omega) ⟨three_same p0 p1 p2 _ _ _, hHeld.2.2.2.2.2.2.2.2, hHeld.2.2.2.2.2.1, hHeld.2.2.2.2.2.2.1, hHeld.2.2.2.2.2.2.2.1⟩ (Lib.hid (zero_three HZ.out b12 (by omega) (by omega) _ _ _)) (Lib.hid ?_)
                exact (keep_before HR_11.out hbn _ _ _).mono (by omega)
              · go_simp
                have hal : ∃ W, w10.alloc (.cells #[.bool false, .string ⟨#[]⟩, .slice none 0 0] 80) = W := ⟨_, rfl⟩
                obtain ⟨w11, hal⟩ := hal
                have hba : Below w10.heap.size w10 w11 := by rw [← hal]; exact (Below.refl _ _).alloc (Nat.le_refl _) _
                have b11 : Below w4.heap.size w4 w11 := b10.trans (hba.mono b10.size)
                have c11 : Below w11.heap.size w11 w11 := Below.refl _ _
                have hzi : w4.heap.size ≤ w10.heap.size := b10.size
                have hlt : w10.heap.size < w11.heap.size := by rw [← hal]; simp
                have HZZ := Lib.hid (fun W (hb : Below w11.heap.size w11 W) => zero_cells (w := w10) (W := W) (by rw [hal]; exact hb))
                rw [hal]
                clear hal
                refine hK.out _ _ (HS.out _ b11) (fun hHeld => ?_)
                clear hK K
                try simp only [Act.put, List.getElem_toArray, List.getElem_cons_zero, List.getElem_cons_succ, List.setIfInBounds_toArray, List.set_cons_zero, List.set_cons_succ]
                refine wpAnyH_ready (rs := [16]) (by kernel_rfl) (by simp) ?_
                refine AllReadyH.cons rfl (fun K hK => ?_) AllReadyH.nil
                go_simp
                go_at_call 67
                refine (rlist_any _ _ _ _).mono ?_
                rintro z w12 ⟨rfl, hb12⟩
                have b12 : Below w4.heap.size w4 w12 := b11.trans (hb12.mono b11.size)
                have c12 : Below w11.heap.size w11 w12 := c11.trans (hb12.mono c11.size)
                clear hb12
                refine hK.out _ _ (HS.out _ b12) (fun hHeld => ?_)
                clear hK K
                try simp only [Act.put, List.getElem_toArray, List.getElem_cons_zero, List.getElem_cons_succ, List.setIfInBounds_toArray, List.set_cons_zero, List.set_cons_succ]
                obtain ⟨p0, p1, p2, f0, f1, f2⟩ := HZZ.out _ c12
                refine wpAnyH_ready (rs := [18]) (by kernel_rfl) (by simp) ?_
                refine AllReadyH.cons rfl (fun K hK => ?_) AllReadyH.nil
                go_simp
                refine hK.out _ _ (⟨three_other hHeld.1 (by omega) _ _ _, three_other hHeld.2.1 (by omega) _ _ _, three_other hHeld.2.2.1 (by omega) _ _ _, three_other hHeld.2.2.2.1 (by omega) _ _ _, three_other hHeld.2.2.2.2.1 (by omega) _ _ _, three_other hHeld.2.2.2.2.2.1 (by omega) _ _ _, three_other hHeld.2.2.2.2.2.2.1 (by omega) _ _ _, three_other hHeld.2.2.2.2.2.2.2.1 (by omega) _ _ _, three_other hHeld.2.2.2.2.2.2.2.2 (by omega) _ _ _⟩) (fun hHeld => ?_)
                clear hK K
                try simp only [Act.put, List.getElem_toArray, List.getElem_cons_zero, List.getElem_cons_succ, List.setIfInBounds_toArray, List.set_cons_zero, List.set_cons_succ]
                refine wpAnyH_done (by kernel_rfl) ?_ 0
                have hbn : Below w10.heap.size w10 w12 := hba.trans (c12.mono hba.size)
                have hbw : Below w.heap.size w w12 := HB4.out.trans (b12.mono HB4.out.size)
                have hsz : w10.heap.size < w12.heap.size := Nat.lt_of_lt_of_le hlt c12.size
                refine hkk _ _ ?_
                refine rlight_r4 n m a b c d e k p l cp br w hN HVV.out hk (w10.heap.size) (.slice (some ⟨w9.heap.size, 0, none⟩) 5 5) ⟨_, _, _, rfl⟩ _ _ _ _ _ _ _ _ _ _ _ _ _ _ _ _ _ _ _ _ _ _ _ _ _ _ _ _ _ _ _ _ _ _ _ _ _ _ _ _ _ (Lib.hid (((hbw.setCell (p := ⟨w10.heap.size, 0, none⟩) (show w.heap.size ≤ w10.heap.size by omega) _).setCell (p := ⟨w10.heap.size, 1, none⟩) (show w.heap.size ≤ w10.heap.size by omega) _).setCell (p := ⟨w10.heap.size, 2, none⟩) (show w.heap.size ≤ w10.heap.size by omega) _)) ⟨by omega, by rw [World.size_setCell, World.size_setCell, World.size_setCell]; omega⟩ (by rw [World.size_setCell, World.size_setCell, World.size_setCell]; omega) ⟨three_same p0 p1 p2 _ _ _, hHeld.2.2.2.2.2.2.2.2, hHeld.2.2.2.2.2.1, hHeld.2.2.2.2.2.2.1, hHeld.2.2.2.2.2.2.2.1⟩ (Lib.hid (zero_three HZ.out b12 (by omega) (by omega) _ _ _)) (Lib.hid ?_)
                exact (keep_before HR_10.out hbn _ _ _).mono (by omega)
            · go_simp
              have hal : ∃ W, w9.alloc (.cells #[.bool false, .string ⟨#[]⟩, .slice none 0 0] 80) = W := ⟨_, rfl⟩
              obtain ⟨w10, hal⟩ := hal
              have hba : Below w9.heap.size w9 w10 := by rw [← hal]; exact (Below.refl _ _).alloc (Nat.le_refl _) _
              have b10 : Below w4.heap.size w4 w10 := b9.trans (hba.mono b9.size)
              have c10 : Below w10.heap.size w10 w10 := Below.refl _ _
              have hzi : w4.heap.size ≤ w9.heap.size := b9.size
              have hlt : w9.heap.size < w10.heap.size := by rw [← hal]; simp
              have HZZ := Lib.hid (fun W (hb : Below w10.heap.size w10 W) => zero_cells (w := w9) (W := W) (by rw [hal]; exact hb))
              rw [hal]
              clear hal
              refine hK.out _ _ (HS.out _ b10) (fun hHeld => ?_)
              clear hK K
              try simp only [Act.put, List.getElem_toArray, List.getElem_cons_zero, List.getElem_cons_succ, List.setIfInBounds_toArray, List.set_cons_zero, List.set_cons_succ]
              refine wpAnyH_ready (rs := [15]) (by kernel_rfl) (by simp) ?_
              refine AllReadyH.cons rfl (fun K hK => ?_) AllReadyH.nil
              go_simp
              have hal : ∃ W, w10.alloc (.cells #[.bool false, .string ⟨(num n).toArray⟩, .slice none 0 0, .bool false, .string ⟨(num m).toArray⟩, .slice none 0 0, .bool false, .string a, .slice none 0 0, .bool false, .string b, .slice none 0 0, .bool false, .string c, .slice none 0 0] 80) = W := ⟨_, rfl⟩
              obtain ⟨w11, hal⟩ := hal
              have hb11 : Below w10.heap.size w10 w11 := by rw [← hal]; exact (Below.refl _ _).alloc (Nat.le_refl _) _
              have b11 : Below w4.heap.size w4 w11 := b10.trans (hb11.mono b10.size)
              have c11 : Below w10.heap.size w10 w11 := c10.trans (hb11.mono c10.size)
              have HR_11 := Lib.hid (show RIn w11 w10.heap.size (.slice (some ⟨w10.heap.size, 0, none⟩) 5 5) [itN n, itN m, itT a, itT b, itT c] from by
                rw [← hal]
                refine reads_new w10 (w10.heap.size) 5 [(itN n, .slice none 0 0), (itN m, .slice none 0 0), (itT a, .slice none 0 0), (itT b, .slice none 0 0), (itT c, .slice none 0 0)] rfl c10.size (fun q hq => ?_)
                simp only [List.mem_cons, List.not_mem_nil, or_false] at hq
                rcases hq with rfl | rfl | rfl | rfl | rfl
                · exact RIn.nil _ _
                · exact RIn.nil _ _
                · exact RIn.nil _ _
                · exact RIn.nil _ _
                · exact RIn.nil _ _)
              rw [hal]
              clear hal hb11
              refine hK.out _ _ (HS.out _ b11) (fun hHeld => ?_)
              clear hK K
              try simp only [Act.put, List.getElem_toArray, List.getElem_cons_zero, List.getElem_cons_succ, List.setIfInBounds_toArray, List.set_cons_zero, List.set_cons_succ]
              refine wpAnyH_ready (rs := [16]) (by kernel_rfl) (by simp) ?_
              refine AllReadyH.cons rfl (fun K hK => ?_) AllReadyH.nil
              go_simp
              go_at_call 67
              refine (rlist_any _ _ _ _).mono ?_
              rintro z w12 ⟨rfl, hb12⟩
              have b12 : Below w4.heap.size w4 w12 := b11.trans (hb12.mono b11.size)
              have c12 : Below w10.heap.size w10 w12 := c11.trans (hb12.mono c11.size)
              have HR_12 := Lib.hid (HR_11.out.below hb12)
              clear HR_11
              clear hb12
              refine hK.out _ _ (HS.out _ b12) (fun hHeld => ?_)
              clear hK K
              try simp only [Act.put, List.getElem_toArray, List.getElem_cons_zero, List.getElem_cons_succ, List.setIfInBounds_toArray, List.set_cons_zero, List.set_cons_succ]
              obtain ⟨p0, p1, p2, f0, f1, f2⟩ := HZZ.out _ c12
              refine wpAnyH_ready (rs := [18]) (by kernel_rfl) (by simp) ?_
              refine AllReadyH.cons rfl (fun K hK => ?_) AllReadyH.nil
              go_simp
              refine hK.out _ _ (⟨three_other hHeld.1 (by omega) _ _ _, three_other hHeld.2.1 (by omega) _ _ _, three_other hHeld.2.2.1 (by omega) _ _ _, three_other hHeld.2.2.2.1 (by omega) _ _ _, three_other hHeld.2.2.2.2.1 (by omega) _ _ _, three_other hHeld.2.2.2.2.2.1 (by omega) _ _ _, three_other hHeld.2.2.2.2.2.2.1 (by omega) _ _ _, three_other hHeld.2.2.2.2.2.2.2.1 (by omega) _ _ _, three_other hHeld.2.2.2.2.2.2.2.2 (by omega) _ _ _⟩) (fun hHeld => ?_)
              clear hK K
              try simp only [Act.put, List.getElem_toArray, List.getElem_cons_zero, List.getElem_cons_succ, List.setIfInBounds_toArray, List.set_cons_zero, List.set_cons_succ]
              refine wpAnyH_done (by kernel_rfl) ?_ 0
              have hbn : Below w9.heap.size w9 w12 := hba.trans (c12.mono hba.size)
              have hbw : Below w.heap.size w w12 := HB4.out.trans (b12.mono HB4.out.size)
              have hsz : w9.heap.size < w12.heap.size := Nat.lt_of_lt_of_le hlt c12.size
              refine hkk _ _ ?_
              refine rlight_r4 n m a b c d e k p l cp br w hN HVV.out hk (w9.heap.size) (.slice (some ⟨w10.heap.size, 0, none⟩) 5 5) ⟨_, _, _, rfl⟩ _ _ _ _ _ _ _ _ _ _ _ _ _ _ _ _ _ _ _ _ _ _ _ _ _ _ _ _ _ _ _ _ _ _ _ _ _ _ _ _ _ (Lib.hid (((hbw.setCell (p := ⟨w9.heap.size, 0, none⟩) (show w.heap.size ≤ w9.heap.size by omega) _).setCell (p := ⟨w9.heap.size, 1, none⟩) (show w.heap.size ≤ w9.heap.size by omega) _).setCell (p := ⟨w9.heap.size, 2, none⟩) (show w.heap.size ≤ w9.heap.size by omega) _)) ⟨by omega, by rw [World.size_setCell, World.size_setCell, World.size_setCell]; omega⟩ (by rw [World.size_setCell, World.size_setCell, World.size_setCell]; omega) ⟨three_same p0 p1 p2 _ _ _, hHeld.2.2.2.2.2.2.2.2, hHeld.2.2.2.2.2.1, hHeld.2.2.2.2.2.2.1, hHeld.2.2.2.2.2.2.2.1⟩ (Lib.hid (zero_three HZ.out b12 (by omega) (by omega) _ _ _)) (Lib.hid ?_)
              exact (keep_after HR_12.out hlt _ _ _).mono (by omega)
          · go_simp
            have hal : ∃ W, w8.alloc (.cells #[.bool false, .string ⟨#[]⟩, .slice none 0 0] 80) = W := ⟨_, rfl⟩
            obtain ⟨w9, hal⟩ := hal
            have hba : Below w8.heap.size w8 w9 := by rw [← hal]; exact (Below.refl _ _).alloc (Nat.le_refl _) _
            have b9 : Below w4.heap.size w4 w9 := b8.trans (hba.mono b8.size)
            have c9 : Below w9.heap.size w9 w9 := Below.refl _ _
            have hzi : w4.heap.size ≤ w8.heap.size := b8.size
            have hlt : w8.heap.size < w9.heap.size := by rw [← hal]; simp
            have HZZ := Lib.hid (fun W (hb : Below w9.heap.size w9 W) => zero_cells (w := w8) (W := W) (by rw [hal]; exact hb))
            rw [hal]
            clear hal
            refine hK.out _ _ (HS.out _ b9) (fun hHeld => ?_)
            clear hK K
            try simp only [Act.put, List.getElem_toArray, List.getElem_cons_zero, List.getElem_cons_succ, List.setIfInBounds_toArray, List.set_cons_zero, List.set_cons_succ]
            refine wpAnyH_ready (rs := [14]) (by kernel_rfl) (by simp) ?_
            refine AllReadyH.cons rfl (fun K hK => ?_) AllReadyH.nil
            go_simp
            go_at_call 74
            refine (rtext_any c _).mono ?_
            rintro z w10 ⟨rfl, hb10⟩
            have b10 : Below w4.heap.size w4 w10 := b9.trans (hb10.mono b9.size)
            have c10 : Below w9.heap.size w9 w10 := c9.trans (hb10.mono c9.size)
            clear hb10
            refine hK.out _ _ (HS.out _ b10) (fun hHeld => ?_)
            clear hK K
            try simp only [Act.put, List.getElem_toArray, List.getElem_cons_zero, List.getElem_cons_succ, List.setIfInBounds_toArray, List.set_cons_zero, List.set_cons_succ]
            refine wpAnyH_ready (rs := [15]) (by kernel_rfl) (by simp) ?_
            refine AllReadyH.cons rfl (fun K hK => ?_) AllReadyH.nil
            go_simp
            have hal : ∃ W, w10.alloc (.cells #[.bool false, .string ⟨(num n).toArray⟩, .slice none 0 0, .bool false, .string ⟨(num m).toArray⟩, .slice none 0 0, .bool false, .string a, .slice none 0 0, .bool false, .string b, .slice none 0 0, .bool false, .string c, .slice none 0 0] 80) = W := ⟨_, rfl⟩
            obtain ⟨w11, hal⟩ := hal
            have hb11 : Below w10.heap.size w10 w11 := by rw [← hal]; exact (Below.refl _ _).alloc (Nat.le_refl _) _
            have b11 : Below w4.heap.size w4 w11 := b10.trans (hb11.mono b10.size)
            have c11 : Below w9.heap.size w9 w11 := c10.trans (hb11.mono c10.size)
            have HR_11 := Lib.hid (show RIn w11 w9.heap.size (.slice (some ⟨w10.heap.size, 0, none⟩) 5 5) [itN n, itN m, itT a, itT b, itT c] from by
              rw [← hal]
              refine reads_new w10 (w9.heap.size) 5 [(itN n, .slice none 0 0), (itN m, .slice none 0 0), (itT a, .slice none 0 0), (itT b, .slice none 0 0), (itT c, .slice none 0 0)] rfl c10.size (fun q hq => ?_)
              simp only [List.mem_cons, List.not_mem_nil, or_false] at hq
              rcases hq with rfl | rfl | rfl | rfl | rfl
              · exact RIn.nil _ _
              · exact RIn.nil _ _
              · exact RIn.nil _ _
              · exact RIn.nil _ _
              · exact RIn.nil _ _)
            rw [hal]
            clear hal hb11
            refine hK.out _ _ (HS.out _ b11) (fun hHeld => ?_)
            clear hK K
            try simp only [Act.put, List.getElem_toArray, List.getElem_cons_zero, List.getElem_cons_succ, List.setIfInBounds_toArray, List.set_cons_zero, List.set_cons_succ]
            refine wpAnyH_ready (rs := [16]) (by kernel_rfl) (by simp) ?_
            refine AllReadyH.cons rfl (fun K hK => ?_) AllReadyH.nil
            go_simp
            go_at_call 67
            refine (rlist_any _ _ _ _).mono ?_
            rintro z w12 ⟨rfl, hb12⟩
            have b12 : Below w4.heap.size w4 w12 := b11.trans (hb12.mono b11.size)
            have c12 : Below w9.heap.size w9 w12 := c11.trans (hb12.mono c11.size)
            have HR_12 := Lib.hid (HR_11.out.below hb12)
            clear HR_11
            clear hb12
            refine hK.out _ _ (HS.out _ b12) (fun hHeld => ?_)
            clear hK K
            try simp only [Act.put, List.getElem_toArray, List.getElem_cons_zero, List.getElem_cons_succ, List.setIfInBounds_toArray, List.set_cons_zero, List.set_cons_succ]
            obtain ⟨p0, p1, p2, f0, f1, f2⟩ := HZZ.out _ c12
            refine wpAnyH_ready (rs := [18]) (by kernel_rfl) (by simp) ?_
            refine AllReadyH.cons rfl (fun K hK => ?_) AllReadyH.nil
            go_simp
            refine hK.out _ _ (⟨three_other hHeld.1 (by omega) _ _ _, three_other hHeld.2.1 (by omega) _ _ _, three_other hHeld.2.2.1 (by omega) _ _ _, three_other hHeld.2.2.2.1 (by omega) _ _ _, three_other hHeld.2.2.2.2.1 (by omega) _ _ _, three_other hHeld.2.2.2.2.2.1 (by omega) _ _ _, three_other hHeld.2.2.2.2.2.2.1 (by omega) _ _ _, three_other hHeld.2.2.2.2.2.2.2.1 (by omega) _ _ _, three_other hHeld.2.2.2.2.2.2.2.2 (by omega) _ _ _⟩) (fun hHeld => ?_)
            clear hK K
            try simp only [Act.put, List.getElem_toArray, List.getElem_cons_zero, List.getElem_cons_succ, List.setIfInBounds_toArray, List.set_cons_zero, List.set_cons_succ]
            refine wpAnyH_done (by kernel_rfl) ?_ 0
            have hbn : Below w8.heap.size w8 w12 := hba.trans (c12.mono hba.size)
            have hbw : Below w.heap.size w w12 := HB4.out.trans (b12.mono HB4.out.size)
            have hsz : w8.heap.size < w12.heap.size := Nat.lt_of_lt_of_le hlt c12.size
            refine hkk _ _ ?_
            refine rlight_r4 n m a b c d e k p l cp br w hN HVV.out hk (w8.heap.size) (.slice (some ⟨w10.heap.size, 0, none⟩) 5 5) ⟨_, _, _, rfl⟩ _ _ _ _ _ _ _ _ _ _ _ _ _ _ _ _ _ _ _ _ _ _ _ _ _ _ _ _ _ _ _ _ _ _ _ _ _ _ _ _ _ (Lib.hid (((hbw.setCell (p := ⟨w8.heap.size, 0, none⟩) (show w.heap.size ≤ w8.heap.size by omega) _).setCell (p := ⟨w8.heap.size, 1, none⟩) (show w.heap.size ≤ w8.heap.size by omega) _).setCell (p := ⟨w8.heap.size, 2, none⟩) (show w.heap.size ≤ w8.heap.size by omega) _)) ⟨by omega, by rw [World.size_setCell, World.size_setCell, World.size_setCell]; omega⟩ (by rw [World.size_setCell, World.size_setCell, World.size_setCell]; omega) ⟨three_same p0 p1 p2 _ _ _, hHeld.2.2.2.2.2.2.2.2, hHeld.2.2.2.2.2.1, hHeld.2.2.2.2.2.2.1, hHeld.2.2.2.2.2.2.2.1⟩ (Lib.hid (zero_three HZ.out b12 (by omega) (by omega) _ _ _)) (Lib.hid ?_)
            exact (keep_after HR_12.out hlt _ _ _).mono (by omega)
        · go_simp
          have hal : ∃ W, w7.alloc (.cells #[.bool false, .string ⟨#[]⟩, .slice none 0 0] 80) = W := ⟨_, rfl⟩
          obtain ⟨w8, hal⟩ := hal
          have hba : Below w7.heap.size w7 w8 := by rw [← hal]; exact (Below.refl _ _).alloc (Nat.le_refl _) _
          have b8 : Below w4.heap.size w4 w8 := b7.trans (hba.mono b7.size)
          have c8 : Below w8.heap.size w8 w8 := Below.refl _ _
          have hzi : w4.heap.size ≤ w7.heap.size := b7.size
          have hlt : w7.heap.size < w8.heap.size := by rw [← hal]; simp
          have HZZ := Lib.hid (fun W (hb : Below w8.heap.size w8 W) => zero_cells (w := w7) (W := W) (by rw [hal]; exact hb))
          rw [hal]
          clear hal
          refine hK.out _ _ (HS.out _ b8) (fun hHeld => ?_)
          clear hK K
          try simp only [Act.put, List.getElem_toArray, List.getElem_cons_zero, List.getElem_cons_succ, List.setIfInBounds_toArray, List.set_cons_zero, List.set_cons_succ]
          refine wpAnyH_ready (rs := [11]) (by kernel_rfl) (by simp) ?_
          refine AllReadyH.cons rfl (fun K hK => ?_) AllReadyH.nil
          go_simp
          go_at_call 74
          refine (rtext_any b _).mono ?_
          rintro z w9 ⟨rfl, hb9⟩
          have b9 : Below w4.heap.size w4 w9 := b8.trans (hb9.mono b8.size)
          have c9 : Below w8.heap.size w8 w9 := c8.trans (hb9.mono c8.size)
          clear hb9
          refine hK.out _ _ (HS.out _ b9) (fun hHeld => ?_)
          clear hK K
          try simp only [Act.put, List.getElem_toArray, List.getElem_cons_zero, List.getElem_cons_succ, List.setIfInBounds_toArray, List.set_cons_zero, List.set_cons_succ]
          refine wpAnyH_ready (rs := [14]) (by kernel_rfl) (by simp) ?_
          refine AllReadyH.cons rfl (fun K hK => ?_) AllReadyH.nil
          go_simp
          go_at_call 74
          refine (rtext_any c _).mono ?_
          rintro z w10 ⟨rfl, hb10⟩
          have b10 : Below w4.heap.size w4 w10 := b9.trans (hb10.mono b9.size)
          have c10 : Below w8.heap.size w8 w10 := c9.trans (hb10.mono c9.size)
          clear hb10
          refine hK.out _ _ (HS.out _ b10) (fun hHeld => ?_)
          clear hK K
          try simp only [Act.put, List.getElem_toArray, List.getElem_cons_zero, List.getElem_cons_succ, List.setIfInBounds_toArray, List.set_cons_zero, List.set_cons_succ]
          refine wpAnyH_ready (rs := [15]) (by kernel_rfl) (by simp) ?_
          refine AllReadyH.cons rfl (fun K hK => ?_) AllReadyH.nil
          go_simp
          have hal : ∃ W, w10.alloc (.cells #[.bool false, .string ⟨(num n).toArray⟩, .slice none 0 0, .bool false, .string ⟨(num m).toArray⟩, .slice none 0 0, .bool false, .string a, .slice none 0 0, .bool false, .string b, .slice none 0 0, .bool false, .string c, .slice none 0 0] 80) = W := ⟨_, rfl⟩
          obtain ⟨w11, hal⟩ := hal
          have hb11 : Below w10.heap.size w10 w11 := by rw [← hal]; exact (Below.refl _ _).alloc (Nat.le_refl _) _
          have b11 : Below w4.heap.size w4 w11 := b10.trans (hb11.mono b10.size)
          have c11 : Below w8.heap.size w8 w11 := c10.trans (hb11.mono c10.size)
          have HR_11 := Lib.hid (show RIn w11 w8.heap.size (.slice (some ⟨w10.heap.size, 0, none⟩) 5 5) [itN n, itN m, itT a, itT b, itT c] from by
            rw [← hal]
            refine reads_new w10 (w8.heap.size) 5 [(itN n, .slice none 0 0), (itN m, .slice none 0 0), (itT a, .slice none 0 0), (itT b, .slice none 0 0), (itT c, .slice none 0 0)] rfl c10.size (fun q hq => ?_)
            simp only [List.mem_cons, List.not_mem_nil, or_false] at hq
            rcases hq with rfl | rfl | rfl | rfl | rfl
            · exact RIn.nil _ _
            · exact RIn.nil _ _
            · exact RIn.nil _ _
            · exact RIn.nil _ _
            · exact RIn.nil _ _)
          rw [hal]
          clear hal hb11
          refine hK.out _ _ (HS.out _ b11) (fun hHeld => ?_)
          clear hK K
          try simp only [Act.put, List.getElem_toArray, List.getElem_cons_zero, List.getElem_cons_succ, List.setIfInBounds_toArray, List.set_cons_zero, List.set_cons_succ]
          refine wpAnyH_ready (rs := [16]) (by kernel_rfl) (by simp) ?_
          refine AllReadyH.cons rfl (fun K hK => ?_) AllReadyH.nil
          go_simp
          go_at_call 67
          refine (rlist_any _ _ _ _).mono ?_
          rintro z w12 ⟨rfl, hb12⟩
          have b12 : Below w4.heap.size w4 w12 := b11.trans (hb12.mono b11.size)
          have c12 : Below w8.heap.size w8 w12 := c11.trans (hb12.mono c11.size)
          have HR_12 := Lib.hid (HR_11.out.below hb12)
          clear HR_11
          clear hb12
          refine hK.out _ _ (HS.out _ b12) (fun hHeld => ?_)
          clear hK K
          try simp only [Act.put, List.getElem_toArray, List.getElem_cons_zero, List.getElem_cons_succ, List.setIfInBounds_toArray, List.set_cons_zero, List.set_cons_succ]
          obtain ⟨p0, p1, p2, f0, f1, f2⟩ := HZZ.out _ c12
          refine wpAnyH_ready (rs := [18]) (by kernel_rfl) (by simp) ?_
          refine AllReadyH.cons rfl (fun K hK => ?_) AllReadyH.nil
          go_simp
          refine hK.out _ _ (⟨three_other hHeld.1 (by omega) _ _ _, three_other hHeld.2.1 (by omega) _ _ _, three_other hHeld.2.2.1 (by omega) _ _ _, three_other hHeld.2.2.2.1 (by omega) _ _ _, three_other hHeld.2.2.2.2.1 (by omega) _ _ _, three_other hHeld.2.2.2.2.2.1 (by omega) _ _ _, three_other hHeld.2.2.2.2.2.2.1 (by omega) _ _ _, three_other hHeld.2.2.2.2.2.2.2.1 (by omega) _ _ _, three_other hHeld.2.2.2.2.2.2.2.2 (by omega) _ _ _⟩) (fun hHeld => ?_)
          clear hK K
          try simp only [Act.put, List.getElem_toArray, List.getElem_cons_zero, List.getElem_cons_succ, List.setIfInBounds_toArray, List.set_cons_zero, List.set_cons_succ]
          refine wpAnyH_done (by kernel_rfl) ?_ 0
          have hbn : Below w7.heap.size w7 w12 := hba.trans (c12.mono hba.size)
          have hbw : Below w.heap.size w w12 := HB4.out.trans (b12.mono HB4.out.size)
          have hsz : w7.heap.size < w12.heap.size := Nat.lt_of_lt_of_le hlt c12.size
          refine hkk _ _ ?_
          refine rlight_r4 n m a b c d e k p l cp br w hN HVV.out hk (w7.heap.size) (.slice (some ⟨w10.heap.size, 0, none⟩) 5 5) ⟨_, _, _, rfl⟩ _ _ _ _ _ _ _ _ _ _ _ _ _ _ _ _ _ _ _ _ _ _ _ _ _ _ _ _ _ _ _ _ _ _ _ _ _ _ _ _ _ (Lib.hid (((hbw.setCell (p := ⟨w7.heap.size, 0, none⟩) (show w.heap.size ≤ w7.heap.size by omega) _).setCell (p := ⟨w7.heap.size, 1, none⟩) (show w.heap.size ≤ w7.heap.size by omega) _).setCell (p := ⟨w7.heap.size, 2, none⟩) (show w.heap.size ≤ w7.heap.size by omega) _)) ⟨by omega, by rw [World.size_setCell, World.size_setCell, World.size_setCell]; omega⟩ (by rw [World.size_setCell, World.size_setCell, World.size_setCell]; omega) ⟨three_same p0 p1 p2 _ _ _, hHeld.2.2.2.2.2.2.2.2, hHeld.2.2.2.2.2.1, hHeld.2.2.2.2.2.2.1, hHeld.2.2.2.2.2.2.2.1⟩ (Lib.hid (zero_three HZ.out b12 (by omega) (by omega) _ _ _)) (Lib.hid ?_)
          exact (keep_after HR_12.out hlt _ _ _).mono (by omega)
      · go_simp
        have hal : ∃ W, w6.alloc (.cells #[.bool false, .string ⟨#[]⟩, .slice none 0 0] 80) = W := ⟨_, rfl⟩
        obtain ⟨w7, hal⟩ := hal
        have hba : Below w6.heap.size w6 w7 := by rw [← hal]; exact (Below.refl _ _).alloc (Nat.le_refl _) _
        have b7 : Below w4.heap.size w4 w7 := b6.trans (hba.mono b6.size)
        have c7 : Below w7.heap.size w7 w7 := Below.refl _ _
        have hzi : w4.heap.size ≤ w6.heap.size := b6.size
        have hlt : w6.heap.size < w7.heap.size := by rw [← hal]; simp
        have HZZ := Lib.hid (fun W (hb : Below w7.heap.size w7 W) => zero_cells (w := w6) (W := W) (by rw [hal]; exact hb))
        rw [hal]
        clear hal
        refine hK.out _ _ (HS.out _ b7) (fun hHeld => ?_)
        clear hK K
        try simp only [Act.put, List.getElem_toArray, List.getElem_cons_zero, List.getElem_cons_succ, List.setIfInBounds_toArray, List.set_cons_zero, List.set_cons_succ]
        refine wpAnyH_ready (rs := [8]) (by kernel_rfl) (by simp) ?_
        refine AllReadyH.cons rfl (fun K hK => ?_) AllReadyH.nil
        go_simp
        go_at_call 74
        refine (rtext_any a _).mono ?_
        rintro z w8 ⟨rfl, hb8⟩
        have b8 : Below w4.heap.size w4 w8 := b7.trans (hb8.mono b7.size)
        have c8 : Below w7.heap.size w7 w8 := c7.trans (hb8.mono c7.size)
        clear hb8
        refine hK.out _ _ (HS.out _ b8) (fun hHeld => ?_)
        clear hK K
        try simp only [Act.put, List.getElem_toArray, List.getElem_cons_zero, List.getElem_cons_succ, List.setIfInBounds_toArray, List.set_cons_zero, List.set_cons_succ]
        refine wpAnyH_ready (rs := [11]) (by kernel_rfl) (by simp) ?_
        refine AllReadyH.cons rfl (fun K hK => ?_) AllReadyH.nil
        go_simp
        go_at_call 74
        refine (rtext_any b _).mono ?_
        rintro z w9 ⟨rfl, hb9⟩
        have b9 : Below w4.heap.size w4 w9 := b8.trans (hb9.mono b8.size)
        have c9 : Below w7.heap.size w7 w9 := c8.trans (hb9.mono c8.size)
        clear hb9
        refine hK.out _ _ (HS.out _ b9) (fun hHeld => ?_)
        clear hK K
        try simp only [Act.put, List.getElem_toArray, List.getElem_cons_zero, List.getElem_cons_succ, List.setIfInBounds_toArray, List.set_cons_zero, List.set_cons_succ]
        refine wpAnyH_ready (rs := [14]) (by kernel_rfl) (by simp) ?_
        refine AllReadyH.cons rfl (fun K hK => ?_) AllReadyH.nil
        go_simp
        go_at_call 74
        refine (rtext_any c _).mono ?_
        rintro z w10 ⟨rfl, hb10⟩
        have b10 : Below w4.heap.size w4 w10 := b9.trans (hb10.mono b9.size)
        have c10 : Below w7.heap.size w7 w10 := c9.trans (hb10.mono c9.size)
        clear hb10
        refine hK.out _ _ (HS.out _ b10) (fun hHeld => ?_)
        clear hK K
        try simp only [Act.put, List.getElem_toArray, List.getElem_cons_zero, List.getElem_cons_succ, List.setIfInBounds_toArray, List.set_cons_zero, List.set_cons_succ]
        refine wpAnyH_ready (rs := [15]) (by kernel_rfl) (by simp) ?_
        refine AllReadyH.cons rfl (fun K hK => ?_) AllReadyH.nil
        go_simp
        have hal : ∃ W, w10.alloc (.cells #[.bool false, .string ⟨(num n).toArray⟩, .slice none 0 0, .bool false, .string ⟨(num m).toArray⟩, .slice none 0 0, .bool false, .string a, .slice none 0 0, .bool false, .string b, .slice none 0 0, .bool false, .string c, .slice none 0 0] 80) = W := ⟨_, rfl⟩
        obtain ⟨w11, hal⟩ := hal
        have hb11 : Below w10.heap.size w10 w11 := by rw [← hal]; exact (Below.refl _ _).alloc (Nat.le_refl _) _
        have b11 : Below w4.heap.size w4 w11 := b10.trans (hb11.mono b10.size)
        have c11 : Below w7.heap.size w7 w11 := c10.trans (hb11.mono c10.size)
        have HR_11 := Lib.hid (show RIn w11 w7.heap.size (.slice (some ⟨w10.heap.size, 0, none⟩) 5 5) [itN n, itN m, itT a, itT b, itT c] from by
          rw [← hal]
          refine reads_new w10 (w7.heap.size) 5 [(itN n, .slice none 0 0), (itN m, .slice none 0 0), (itT a, .slice none 0 0), (itT b, .slice none 0 0), (itT c, .slice none 0 0)] rfl c10.size (fun q hq => ?_)
          simp only [List.mem_cons, List.not_mem_nil, or_false] at hq
          rcases hq with rfl | rfl | rfl | rfl | rfl
          · exact RIn.nil _ _
          · exact RIn.nil _ _
          · exact RIn.nil _ _
          · exact RIn.nil _ _
          · exact RIn.nil _ _)
        rw [hal]
        clear hal hb11
        refine hK.out _ _ (HS.out _ b11) (fun hHeld => ?_)
        clear hK K
        try simp only [Act.put, List.getElem_toArray, List.getElem_cons_zero, List.getElem_cons_succ, List.setIfInBounds_toArray, List.set_cons_zero, List.set_cons_succ]
        refine wpAnyH_ready (rs := [16]) (by kernel_rfl) (by simp) ?_
        refine AllReadyH.cons rfl (fun K hK => ?_) AllReadyH.nil
        go_simp
        go_at_call 67
        refine (rlist_any _ _ _ _).mono ?_
        rintro z w12 ⟨rfl, hb12⟩
        have b12 : Below w4.heap.size w4 w12 := b11.trans (hb12.mono b11.size)
        have c12 : Below w7.heap.size w7 w12 := c11.trans (hb12.mono c11.size)
        have HR_12 := Lib.hid (HR_11.out.below hb12)
        clear HR_11
        clear hb12
        refine hK.out _ _ (HS.out _ b12) (fun hHeld => ?_)
        clear hK K
        try simp only [Act.put, List.getElem_toArray, List.getElem_cons_zero, List.getElem_cons_succ, List.setIfInBounds_toArray, List.set_cons_zero, List.set_cons_succ]
        obtain ⟨p0, p1, p2, f0, f1, f2⟩ := HZZ.out _ c12
        refine wpAnyH_ready (rs := [18]) (by kernel_rfl) (by simp) ?_
        refine AllReadyH.cons rfl (fun K hK => ?_) AllReadyH.nil
        go_simp
        refine hK.out _ _ (⟨three_other hHeld.1 (by omega) _ _ _, three_other hHeld.2.1 (by omega) _ _ _, three_other hHeld.2.2.1 (by omega) _ _ _, three_other hHeld.2.2.2.1 (by omega) _ _ _, three_other hHeld.2.2.2.2.1 (by omega) _ _ _, three_other hHeld.2.2.2.2.2.1 (by omega) _ _ _, three_other hHeld.2.2.2.2.2.2.1 (by omega) _ _ _, three_other hHeld.2.2.2.2.2.2.2.1 (by omega) _ _ _, three_other hHeld.2.2.2.2.2.2.2.2 (by omega) _ _ _⟩) (fun hHeld => ?_)
        clear hK K
        try simp only [Act.put, List.getElem_toArray, List.getElem_cons_zero, List.getElem_cons_succ, List.setIfInBounds_toArray, List.set_cons_zero, List.set_cons_succ]
        refine wpAnyH_done (by kernel_rfl) ?_ 0
        have hbn : Below w6.heap.size w6 w12 := hba.trans (c12.mono hba.size)
        have hbw : Below w.heap.size w w12 := HB4.out.trans (b12.mono HB4.out.size)
        have hsz : w6.heap.size < w12.heap.size := Nat.lt_of_lt_of_le hlt c12.size
        refine hkk _ _ ?_
        refine rlight_r4 n m a b c d e k p l cp br w hN HVV.out hk (w6.heap.size) (.slice (some ⟨w10.heap.size, 0, none⟩) 5 5) ⟨_, _, _, rfl⟩ _ _ _ _ _ _ _ _ _ _ _ _ _ _ _ _ _ _ _ _ _ _ _ _ _ _ _ _ _ _ _ _ _ _ _ _ _ _ _ _ _ (Lib.hid (((hbw.setCell (p := ⟨w6.heap.size, 0, none⟩) (show w.heap.size ≤ w6.heap.size by omega) _).setCell (p := ⟨w6.heap.size, 1, none⟩) (show w.heap.size ≤ w6.heap.size by omega) _).setCell (p := ⟨w6.heap.size, 2, none⟩) (show w.heap.size ≤ w6.heap.size by omega) _)) ⟨by omega, by rw [World.size_setCell, World.size_setCell, World.size_setCell]; omega⟩ (by rw [World.size_setCell, World.size_setCell, World.size_setCell]; omega) ⟨three_same p0 p1 p2 _ _ _, hHeld.2.2.2.2.2.2.2.2, hHeld.2.2.2.2.2.1, hHeld.2.2.2.2.2.2.1, hHeld.2.2.2.2.2.2.2.1⟩ (Lib.hid (zero_three HZ.out b12 (by omega) (by omega) _ _ _)) (Lib.hid ?_)
        exact (keep_after HR_12.out hlt _ _ _).mono (by omega)
    · go_simp
      have hal : ∃ W, w5.alloc (.cells #[.bool false, .string ⟨#[]⟩, .slice none 0 0] 80) = W := ⟨_, rfl⟩
      obtain ⟨w6, hal⟩ := hal
      have hba : Below w5.heap.size w5 w6 := by rw [← hal]; exact (Below.refl _ _).alloc (Nat.le_refl _) _
      have b6 : Below w4.heap.size w4 w6 := b5.trans (hba.mono b5.size)
      have c6 : Below w6.heap.size w6 w6 := Below.refl _ _
      have hzi : w4.heap.size ≤ w5.heap.size := b5.size
      have hlt : w5.heap.size < w6.heap.size := by rw [← hal]; simp
      have HZZ := Lib.hid (fun W (hb : Below w6.heap.size w6 W) => zero_cells (w := w5) (W := W) (by rw [hal]; exact hb))
      rw [hal]
      clear hal
      refine hK.out _ _ (HS.out _ b6) (fun hHeld => ?_)
      clear hK K
      try simp only [Act.put, List.getElem_toArray, List.getElem_cons_zero, List.getElem_cons_succ, List.setIfInBounds_toArray, List.set_cons_zero, List.set_cons_succ]
      refine wpAnyH_ready (rs := [5]) (by kernel_rfl) (by simp) ?_
      refine AllReadyH.cons rfl (fun K hK => ?_) AllReadyH.nil
      go_simp
      go_at_call 73
      refine (HM.out _).mono ?_
      rintro z w7 ⟨rfl, hb7⟩
      have b7 : Below w4.heap.size w4 w7 := b6.trans (hb7.mono b6.size)
      have c7 : Below w6.heap.size w6 w7 := c6.trans (hb7.mono c6.size)
      clear hb7
      refine hK.out _ _ (HS.out _ b7) (fun hHeld => ?_)
      clear hK K
      try simp only [Act.put, List.getElem_toArray, List.getElem_cons_zero, List.getElem_cons_succ, List.setIfInBounds_toArray, List.set_cons_zero, List.set_cons_succ]
      refine wpAnyH_ready (rs := [8]) (by kernel_rfl) (by simp) ?_
      refine AllReadyH.cons rfl (fun K hK => ?_) AllReadyH.nil
      go_simp
      go_at_call 74
      refine (rtext_any a _).mono ?_
      rintro z w8 ⟨rfl, hb8⟩
      have b8 : Below w4.heap.size w4 w8 := b7.trans (hb8.mono b7.size)
      have c8 : Below w6.heap.size w6 w8 := c7.trans (hb8.mono c7.size)
      clear hb8
      refine hK.out _ _ (HS.out _ b8) (fun hHeld => ?_)
      clear hK K
      try simp only [Act.put, List.getElem_toArray, List.getElem_cons_zero, List.getElem_cons_succ, List.setIfInBounds_toArray, List.set_cons_zero, List.set_cons_succ]
      refine wpAnyH_ready (rs := [11]) (by kernel_rfl) (by simp) ?_
      refine AllReadyH.cons rfl (fun K hK => ?_) AllReadyH.nil
      go_simp
      go_at_call 74
      refine (rtext_any b _).mono ?_
      rintro z w9 ⟨rfl, hb9⟩
      have b9 : Below w4.heap.size w4 w9 := b8.trans (hb9.mono b8.size)
      have c9 : Below w6.heap.size w6 w9 := c8.trans (hb9.mono c8.size)
      clear hb9
      refine hK.out _ _ (HS.out _ b9) (fun hHeld => ?_)
      clear hK K
      try simp only [Act.put, List.getElem_toArray, List.getElem_cons_zero, List.getElem_cons_succ, List.setIfInBounds_toArray, List.set_cons_zero, List.set_cons_succ]
      refine wpAnyH_ready (rs := [14]) (by kernel_rfl) (by simp) ?_
      refine AllReadyH.cons rfl (fun K hK => ?_) AllReadyH.nil
      go_simp
      go_at_call 74
      refine (rtext_any c _).mono ?_
      rintro z w10 ⟨rfl, hb10⟩
      have b10 : Below w4.heap.size w4 w10 := b9.trans (hb10.mono b9.size)
      have c10 : Below w6.heap.size w6 w10 := c9.trans (hb10.mono c9.size)
      clear hb10
      refine hK.out _ _ (HS.out _ b10) (fun hHeld => ?_)
      clear hK K
      try simp only [Act.put, List.getElem_toArray, List.getElem_cons_zero, List.getElem_cons_succ, List.setIfInBounds_toArray, List.set_cons_zero, List.set_cons_succ]
      refine wpAnyH_ready (rs := [15]) (by kernel_rfl) (by simp) ?_
      refine AllReadyH.cons rfl (fun K hK => ?_) AllReadyH.nil
      go_simp
      have hal : ∃ W, w10.alloc (.cells #[.bool false, .string ⟨(num n).toArray⟩, .slice none 0 0, .bool false, .string ⟨(num m).toArray⟩, .slice none 0 0, .bool false, .string a, .slice none 0 0, .bool false, .string b, .slice none 0 0, .bool false, .string c, .slice none 0 0] 80) = W := ⟨_, rfl⟩
      obtain ⟨w11, hal⟩ := hal
      have hb11 : Below w10.heap.size w10 w11 := by rw [← hal]; exact (Below.refl _ _).alloc (Nat.le_refl _) _
      have b11 : Below w4.heap.size w4 w11 := b10.trans (hb11.mono b10.size)
      have c11 : Below w6.heap.size w6 w11 := c10.trans (hb11.mono c10.size)
      have HR_11 := Lib.hid (show RIn w11 w6.heap.size (.slice (some ⟨w10.heap.size, 0, none⟩) 5 5) [itN n, itN m, itT a, itT b, itT c] from by
        rw [← hal]
        refine reads_new w10 (w6.heap.size) 5 [(itN n, .slice none 0 0), (itN m, .slice none 0 0), (itT a, .slice none 0 0), (itT b, .slice none 0 0), (itT c, .slice none 0 0)] rfl c10.size (fun q hq => ?_)
        simp only [List.mem_cons, List.not_mem_nil, or_false] at hq
        rcases hq with rfl | rfl | rfl | rfl | rfl
        · exact RIn.nil _ _
        · exact RIn.nil _ _
        · exact RIn.nil _ _
        · exact RIn.nil _ _
        · exact RIn.nil _ _)
      rw [hal]
      clear hal hb11
      refine hK.out _ _ (HS.out _ b11) (fun hHeld => ?_)
      clear hK K
      try simp only [Act.put, List.getElem_toArray, List.getElem_cons_zero, List.getElem_cons_succ, List.setIfInBounds_toArray, List.set_cons_zero, List.set_cons_succ]
      refine wpAnyH_ready (rs := [16]) (by kernel_rfl) (by simp) ?_
      refine AllReadyH.cons rfl (fun K hK => ?_) AllReadyH.nil
      go_simp
      go_at_call 67
      refine (rlist_any _ _ _ _).mono ?_
      rintro z w12 ⟨rfl, hb12⟩
      have b12 : Below w4.heap.size w4 w12 := b11.trans (hb12.mono b11.size)
      have c12 : Below w6.heap.size w6 w12 := c11.trans (hb12.mono c11.size)
      have HR_12 := Lib.hid (HR_11.out.below hb12)
      clear HR_11
      clear hb12
      refine hK.out _ _ (HS.out _ b12) (fun hHeld => ?_)
      clear hK K
      try simp only [Act.put, List.getElem_toArray, List.getElem_cons_zero, List.getElem_cons_succ, List.setIfInBounds_toArray, List.set_cons_zero, List.set_cons_succ]
      obtain ⟨p0, p1, p2, f0, f1, f2⟩ := HZZ.out _ c12
      refine wpAnyH_ready (rs := [18]) (by kernel_rfl) (by simp) ?_
      refine AllReadyH.cons rfl (fun K hK => ?_) AllReadyH.nil
      go_simp
      refine hK.out _ _ (⟨three_other hHeld.1 (by omega) _ _ _, three_other hHeld.2.1 (by omega) _ _ _, three_other hHeld.2.2.1 (by omega) _ _ _, three_other hHeld.2.2.2.1 (by omega) _ _ _, three_other hHeld.2.2.2.2.1 (by omega) _ _ _, three_other hHeld.2.2.2.2.2.1 (by omega) _ _ _, three_other hHeld.2.2.2.2.2.2.1 (by omega) _ _ _, three_other hHeld.2.2.2.2.2.2.2.1 (by omega) _ _ _, three_other hHeld.2.2.2.2.2.2.2.2 (by omega) _ _ _⟩) (fun hHeld => ?_)
      clear hK K
      try simp only [Act.put, List.getElem_toArray, List.getElem_cons_zero, List.getElem_cons_succ, List.setIfInBounds_toArray, List.set_cons_zero, List.set_cons_succ]
      refine wpAnyH_done (by kernel_rfl) ?_ 0
      have hbn : Below w5.heap.size w5 w12 := hba.trans (c12.mono hba.size)
      have hbw : Below w.heap.size w w12 := HB4.out.trans (b12.mono HB4.out.size)
      have hsz : w5.heap.size < w12.heap.size := Nat.lt_of_lt_of_le hlt c12.size
      refine hkk _ _ ?_
      refine rlight_r4 n m a b c d e k p l cp br w hN HVV.out hk (w5.heap.size) (.slice (some ⟨w10.heap.size, 0, none⟩) 5 5) ⟨_, _, _, rfl⟩ _ _ _ _ _ _ _ _ _ _ _ _ _ _ _ _ _ _ _ _ _ _ _ _ _ _ _ _ _ _ _ _ _ _ _ _ _ _ _ _ _ (Lib.hid (((hbw.setCell (p := ⟨w5.heap.size, 0, none⟩) (show w.heap.size ≤ w5.heap.size by omega) _).setCell (p := ⟨w5.heap.size, 1, none⟩) (show w.heap.size ≤ w5.heap.size by omega) _).setCell (p := ⟨w5.heap.size, 2, none⟩) (show w.heap.size ≤ w5.heap.size by omega) _)) ⟨by omega, by rw [World.size_setCell, World.size_setCell, World.size_setCell]; omega⟩ (by rw [World.size_setCell, World.size_setCell, World.size_setCell]; omega) ⟨three_same p0 p1 p2 _ _ _, hHeld.2.2.2.2.2.2.2.2, hHeld.2.2.2.2.2.1, hHeld.2.2.2.2.2.2.1, hHeld.2.2.2.2.2.2.2.1⟩ (Lib.hid (zero_three HZ.out b12 (by omega) (by omega) _ _ _)) (Lib.hid ?_)
      exact (keep_after HR_12.out hlt _ _ _).mono (by omega)
  · go_simp
    have hal : ∃ W, (w4.alloc (.cells #[.bool false, .string ⟨#[]⟩, .slice none 0 0] 80)).drew = W := ⟨_, rfl⟩
    obtain ⟨w5, hal⟩ := hal
    have hba : Below w4.heap.size w4 w5 := by rw [← hal]; exact ((Below.refl _ _).alloc (Nat.le_refl _) _).drew
    have b5 : Below w4.heap.size w4 w5 := hba
    have c5 : Below w5.heap.size w5 w5 := Below.refl _ _
    have hzi : w4.heap.size ≤ w4.heap.size := Nat.le_refl _
    have hlt : w4.heap.size < w5.heap.size := by rw [← hal]; show w4.heap.size < (w4.alloc _).heap.size; simp
    have HZZ := Lib.hid (fun W (hb : Below w5.heap.size w5 W) => zero_cells (w := w4) (W := W) (by rw [← hal] at hb; exact (Below.refl _ _).drew.trans hb))
    rw [hal]
    clear hal
    refine hK.out _ _ (HS.out _ b5) (fun hHeld => ?_)
    clear hK K
    try simp only [Act.put, List.getElem_toArray, List.getElem_cons_zero, List.getElem_cons_succ, List.setIfInBounds_toArray, List.set_cons_zero, List.set_cons_succ]
    refine wpAnyH_ready (rs := [2]) (by kernel_rfl) (by simp) ?_
    refine AllReadyH.cons rfl (fun K hK => ?_) AllReadyH.nil
    go_simp
    go_at_call 73
    refine (HN.out _).mono ?_
    rintro z w6 ⟨rfl, hb6⟩
    have b6 : Below w4.heap.size w4 w6 := b5.trans (hb6.mono b5.size)
    have c6 : Below w5.heap.size w5 w6 := c5.trans (hb6.mono c5.size)
    clear hb6
    refine hK.out _ _ (HS.out _ b6) (fun hHeld => ?_)
    clear hK K
    try simp only [Act.put, List.getElem_toArray, List.getElem_cons_zero, List.getElem_cons_succ, List.setIfInBounds_toArray, List.set_cons_zero, List.set_cons_succ]
    refine wpAnyH_ready (rs := [5]) (by kernel_rfl) (by simp) ?_
    refine AllReadyH.cons rfl (fun K hK => ?_) AllReadyH.nil
    go_simp
    go_at_call 73
    refine (HM.out _).mono ?_
    rintro z w7 ⟨rfl, hb7⟩
    have b7 : Below w4.heap.size w4 w7 := b6.trans (hb7.mono b6.size)
    have c7 : Below w5.heap.size w5 w7 := c6.trans (hb7.mono c6.size)
    clear hb7
    refine hK.out _ _ (HS.out _ b7) (fun hHeld => ?_)
    clear hK K
    try simp only [Act.put, List.getElem_toArray, List.getElem_cons_zero, List.getElem_cons_succ, List.setIfInBounds_toArray, List.set_cons_zero, List.set_cons_succ]
    refine wpAnyH_ready (rs := [8]) (by kernel_rfl) (by simp) ?_
    refine AllReadyH.cons rfl (fun K hK => ?_) AllReadyH.nil
    go_simp
    go_at_call 74
    refine (rtext_any a _).mono ?_
    rintro z w8 ⟨rfl, hb8⟩
    have b8 : Below w4.heap.size w4 w8 := b7.trans (hb8.mono b7.size)
    have c8 : Below w5.heap.size w5 w8 := c7.trans (hb8.mono c7.size)
    clear hb8
    refine hK.out _ _ (HS.out _ b8) (fun hHeld => ?_)
    clear hK K
    try simp only [Act.put, List.getElem_toArray, List.getElem_cons_zero, List.getElem_cons_succ, List.setIfInBounds_toArray, List.set_cons_zero, List.set_cons_succ]
    refine wpAnyH_ready (rs := [11]) (by kernel_rfl) (by simp) ?_
    refine AllReadyH.cons rfl (fun K hK => ?_) AllReadyH.nil
    go_simp
    go_at_call 74
    refine (rtext_any b _).mono ?_
    rintro z w9 ⟨rfl, hb9⟩
    have b9 : Below w4.heap.size w4 w9 := b8.trans (hb9.mono b8.size)
    have c9 : Below w5.heap.size w5 w9 := c8.trans (hb9.mono c8.size)
    clear hb9
    refine hK.out _ _ (HS.out _ b9) (fun hHeld => ?_)
    clear hK K
    try simp only [Act.put, List.getElem_toArray, List.getElem_cons_zero, List.getElem_cons_succ, List.setIfInBounds_toArray, List.set_cons_zero, List.set_cons_succ]
    refine wpAnyH_ready (rs := [14]) (by kernel_rfl) (by simp) ?_
    refine AllReadyH.cons rfl (fun K hK => ?_) AllReadyH.nil
    go_simp
    go_at_call 74
    refine (rtext_any c _).mono ?_
    rintro z w10 ⟨rfl, hb10⟩
    have b10 : Below w4.heap.size w4 w10 := b9.trans (hb10.mono b9.size)
    have c10 : Below w5.heap.size w5 w10 := c9.trans (hb10.mono c9.size)
    clear hb10
    refine hK.out _ _ (HS.out _ b10) (fun hHeld => ?_)
    clear hK K
    try simp only [Act.put, List.getElem_toArray, List.getElem_cons_zero, List.getElem_cons_succ, List.setIfInBounds_toArray, List.set_cons_zero, List.set_cons_succ]
    refine wpAnyH_ready (rs := [15]) (by kernel_rfl) (by simp) ?_
    refine AllReadyH.cons rfl (fun K hK => ?_) AllReadyH.nil
    go_simp
    have hal : ∃ W, w10.alloc (.cells #[.bool false, .string ⟨(num n).toArray⟩, .slice none 0 0, .bool false, .string ⟨(num m).toArray⟩, .slice none 0 0, .bool false, .string a, .slice none 0 0, .bool false, .string b, .slice none 0 0, .bool false, .string c, .slice none 0 0] 80) = W := ⟨_, rfl⟩
    obtain ⟨w11, hal⟩ := hal
    have hb11 : Below w10.heap.size w10 w11 := by rw [← hal]; exact (Below.refl _ _).alloc (Nat.le_refl _) _
    have b11 : Below w4.heap.size w4 w11 := b10.trans (hb11.mono b10.size)
    have c11 : Below w5.heap.size w5 w11 := c10.trans (hb11.mono c10.size)
    have HR_11 := Lib.hid (show RIn w11 w5.heap.size (.slice (some ⟨w10.heap.size, 0, none⟩) 5 5) [itN n, itN m, itT a, itT b, itT c] from by
      rw [← hal]
      refine reads_new w10 (w5.heap.size) 5 [(itN n, .slice none 0 0), (itN m, .slice none 0 0), (itT a, .slice none 0 0), (itT b, .slice none 0 0), (itT c, .slice none 0 0)] rfl c10.size (fun q hq => ?_)
      simp only [List.mem_cons, List.not_mem_nil, or_false] at hq
      rcases hq with rfl | rfl | rfl | rfl | rfl
      · exact RIn.nil _ _
      · exact RIn.nil _ _
      · exact RIn.nil _ _
      · exact RIn.nil _ _
      · exact RIn.nil _ _)
    rw [hal]
    clear hal hb11
    refine hK.out _ _ (HS.out _ b11) (fun hHeld => ?_)
    clear hK K
    try simp only [Act.put, List.getElem_toArray, List.getElem_cons_zero, List.getElem_cons_succ, List.setIfInBounds_toArray, List.set_cons_zero, List.set_cons_succ]
    refine wpAnyH_ready (rs := [16]) (by kernel_rfl) (by simp) ?_
    refine AllReadyH.cons rfl (fun K hK => ?_) AllReadyH.nil
    go_simp
    go_at_call 67
    refine (rlist_any _ _ _ _).mono ?_
    rintro z w12 ⟨rfl, hb12⟩
    have b12 : Below w4.heap.size w4 w12 := b11.trans (hb12.mono b11.size)
    have c12 : Below w5.heap.size w5 w12 := c11.trans (hb12.mono c11.size)
    have HR_12 := Lib.hid (HR_11.out.below hb12)
    clear HR_11
    clear hb12
    refine hK.out _ _ (HS.out _ b12) (fun hHeld => ?_)
    clear hK K
    try simp only [Act.put, List.getElem_toArray, List.getElem_cons_zero, List.getElem_cons_succ, List.setIfInBounds_toArray, List.set_cons_zero, List.set_cons_succ]
    obtain ⟨p0, p1, p2, f0, f1, f2⟩ := HZZ.out _ c12
    refine wpAnyH_ready (rs := [18]) (by kernel_rfl) (by simp) ?_
    refine AllReadyH.cons rfl (fun K hK => ?_) AllReadyH.nil
    go_simp
    refine hK.out _ _ (⟨three_other hHeld.1 (by omega) _ _ _, three_other hHeld.2.1 (by omega) _ _ _, three_other hHeld.2.2.1 (by omega) _ _ _, three_other hHeld.2.2.2.1 (by omega) _ _ _, three_other hHeld.2.2.2.2.1 (by omega) _ _ _, three_other hHeld.2.2.2.2.2.1 (by omega) _ _ _, three_other hHeld.2.2.2.2.2.2.1 (by omega) _ _ _, three_other hHeld.2.2.2.2.2.2.2.1 (by omega) _ _ _, three_other hHeld.2.2.2.2.2.2.2.2 (by omega) _ _ _⟩) (fun hHeld => ?_)
    clear hK K
    try simp only [Act.put, List.getElem_toArray, List.getElem_cons_zero, List.getElem_cons_succ, List.setIfInBounds_toArray, List.set_cons_zero, List.set_cons_succ]
    refine wpAnyH_done (by kernel_rfl) ?_ 0
    have hbn : Below w4.heap.size w4 w12 := hba.trans (c12.mono hba.size)
    have hbw : Below w.heap.size w w12 := HB4.out.trans (b12.mono HB4.out.size)
    have hsz : w4.heap.size < w12.heap.size := Nat.lt_of_lt_of_le hlt c12.size
    refine hkk _ _ ?_
    refine rlight_r4 n m a b c d e k p l cp br w hN HVV.out hk (w4.heap.size) (.slice (some ⟨w10.heap.size, 0, none⟩) 5 5) ⟨_, _, _, rfl⟩ _ _ _ _ _ _ _ _ _ _ _ _ _ _ _ _ _ _ _ _ _ _ _ _ _ _ _ _ _ _ _ _ _ _ _ _ _ _ _ _ _ (Lib.hid (((hbw.setCell (p := ⟨w4.heap.size, 0, none⟩) (show w.heap.size ≤ w4.heap.size by omega) _).setCell (p := ⟨w4.heap.size, 1, none⟩) (show w.heap.size ≤ w4.heap.size by omega) _).setCell (p := ⟨w4.heap.size, 2, none⟩) (show w.heap.size ≤ w4.heap.size by omega) _)) ⟨by omega, by rw [World.size_setCell, World.size_setCell, World.size_setCell]; omega⟩ (by rw [World.size_setCell, World.size_setCell, World.size_setCell]; omega) ⟨three_same p0 p1 p2 _ _ _, hHeld.2.2.2.2.2.2.2.2, hHeld.2.2.2.2.2.1, hHeld.2.2.2.2.2.2.1, hHeld.2.2.2.2.2.2.2.1⟩ (Lib.hid (zero_three HZ.out b12 (by omega) (by omega) _ _ _)) (Lib.hid ?_)
    exact (keep_after HR_12.out hlt _ _ _).mono (by omega)
end Go.Proofs.YtfbopnebfdkhdaaDoor
