/- Contract of head.light: a Light's item. -/
import Derived.Test.YtfbopnebfdkhdaaDoorItC
namespace Go.Proofs.YtfbopnebfdkhdaaDoor
open Go.RowKit Go.Shelf Go.Lib
attribute [local go_sem] Oper.semAt_some

/-- a Light's items -/
def lightItems (n m : Nat) (a b c d e : ByteArray) (k : Nat) (br : List ByteArray) : List Item := [itL [itN n, itN m, itT a, itT b, itT c], itL [itT d, itT e, itN k], itTs br]
theorem stashW {P : Program} {Q : Exit → Act → World → Prop} {c : Code} {a : Act} {W : World} (h : ∀ w4, w4 = W → c.wp P Q a w4) : c.wp P Q a W := h W rfl
set_option maxRecDepth 100000 in
set_option maxHeartbeats 6400000 in
theorem itLight_any (n m : Nat) (a b c d e : ByteArray) (k : Nat) (v : Value) (br : List ByteArray) (w : World) (hn : n < 18446744073709551616) (hm : m < 18446744073709551616) (hk : k < 18446744073709551616) (hv : Strs w v br) (hN : br.length ≤ 1048576) :
    Calls Tryd.prog 63 #[.agg #[.int .u64 n, .int .u64 m, .string a, .string b, .string c, .string d, .string e, .int .u64 k, v]] w (GivesL w (lightItems n m a b c d e k br)) := by
  have HV := Lib.hid hv
  obtain ⟨p, cp, rfl, -⟩ := hv
  obtain ⟨l, hl⟩ : ∃ l, br.length = l := ⟨_, rfl⟩
  rw [hl] at HV hN ⊢
  have HT := Lib.hid (fun W (h : Strs W (.slice p l cp) br) => itTexts_any (.slice p l cp) br W h (by omega))
  have HN := Lib.hid (fun W => itNumber_any n W hn)
  have HM := Lib.hid (fun W => itNumber_any m W hm)
  have HK := Lib.hid (fun W => itNumber_any k W hk)
  clear hl hn hm hk hN
  go_enter Tryd.func63, Tryd.ntmps63
  go_wp2_with fail
  refine wp_region_held_drew (S := (fun W => W.cell? ⟨w.heap.size, 0, none⟩ = some (.int .u64 n) ∧ W.cell? ⟨w.heap.size, 1, none⟩ = some (.int .u64 m) ∧ W.cell? ⟨w.heap.size, 2, none⟩ = some (.string a) ∧ W.cell? ⟨w.heap.size, 3, none⟩ = some (.string b) ∧ W.cell? ⟨w.heap.size, 4, none⟩ = some (.string c) ∧ W.cell? ⟨w.heap.size, 5, none⟩ = some (.string d) ∧ W.cell? ⟨w.heap.size, 6, none⟩ = some (.string e) ∧ W.cell? ⟨w.heap.size, 7, none⟩ = some (.int .u64 k) ∧ W.cell? ⟨w.heap.size, 8, none⟩ = some (.slice p l cp))) (by kernel_rfl) (by simp) (fun hHeld => ?_)
  refine wpAnyH_take (i := 0) (v := ?_) rfl (by kernel_rfl) (by kernel_rfl) (by kernel_rfl) (fun _ _ _ h => h) (.inl ⟨by rfl, ?_⟩) (by assumption) ?_
  rotate_left 1
  · intro w0 hSw
    go_simp <;> with_reducible rfl
  try simp only [Act.put, List.getElem_toArray, List.getElem_cons_zero, List.setIfInBounds_toArray, List.set_cons_zero, List.set_cons_succ]
  refine wpAnyH_take (i := 1) (v := ?_) rfl (by kernel_rfl) (by kernel_rfl) (by kernel_rfl) (fun _ _ _ h => h) (.inl ⟨by rfl, ?_⟩) (by assumption) ?_
  rotate_left 1
  · intro w0 hSw
    obtain ⟨z0, z1, z2, z3, z4, z5, z6, z7, z8⟩ := hSw
    go_simp <;> with_reducible rfl
  try simp only [Act.put, List.getElem_toArray, List.getElem_cons_zero, List.getElem_cons_succ, List.setIfInBounds_toArray, List.set_cons_zero, List.set_cons_succ]
  refine wpAnyH_take (i := 2) (v := ?_) rfl (by kernel_rfl) (by kernel_rfl) (by kernel_rfl) (fun _ _ _ h => h) (.inl ⟨by rfl, ?_⟩) (by assumption) ?_
  rotate_left 1
  · intro w0 hSw
    go_simp <;> with_reducible rfl
  try simp only [Act.put, List.getElem_toArray, List.getElem_cons_zero, List.getElem_cons_succ, List.setIfInBounds_toArray, List.set_cons_zero, List.set_cons_succ]
  refine wpAnyH_take (i := 3) (v := ?_) rfl (by kernel_rfl) (by kernel_rfl) (by kernel_rfl) (fun _ _ _ h => h) (.inl ⟨by rfl, ?_⟩) (by assumption) ?_
  rotate_left 1
  · intro w0 hSw
    obtain ⟨z0, z1, z2, z3, z4, z5, z6, z7, z8⟩ := hSw
    go_simp <;> with_reducible rfl
  try simp only [Act.put, List.getElem_toArray, List.getElem_cons_zero, List.getElem_cons_succ, List.setIfInBounds_toArray, List.set_cons_zero, List.set_cons_succ]
  refine wpAnyH_ready (rs := [4, 5]) (by kernel_rfl) (by simp) ?_
  refine AllReadyH.cons rfl (fun K hK => ?_) (AllReadyH.cons rfl (fun K hK => ?_) AllReadyH.nil)
  · go_simp
    refine hK.out _ _ (by simp [go_sem]) (fun hHeld => ?_)
    clear hK K
    try simp only [Act.put, List.getElem_toArray, List.getElem_cons_zero, List.getElem_cons_succ, List.setIfInBounds_toArray, List.set_cons_zero, List.set_cons_succ]
    refine wpAnyH_ready (rs := [5]) (by kernel_rfl) (by simp) ?_
    refine AllReadyH.cons rfl (fun K hK => ?_) AllReadyH.nil
    go_simp
    refine hK.out _ _ (by simp [go_sem]) (fun hHeld => ?_)
    clear hK K
    try simp only [Act.put, List.getElem_toArray, List.getElem_cons_zero, List.getElem_cons_succ, List.setIfInBounds_toArray, List.set_cons_zero, List.set_cons_succ]
    refine wpAnyH_ready (rs := [6]) (by kernel_rfl) (by simp) ?_
    refine AllReadyH.cons rfl (fun K hK => ?_) AllReadyH.nil
    go_simp
    refine hK.out _ _ (by simp [go_sem]) (fun hHeld => ?_)
    clear hK K
    try simp only [Act.put, List.getElem_toArray, List.getElem_cons_zero, List.getElem_cons_succ, List.setIfInBounds_toArray, List.set_cons_zero, List.set_cons_succ]
    refine wpAnyH_ready (rs := [7]) (by kernel_rfl) (by simp) ?_
    refine AllReadyH.cons rfl (fun K hK => ?_) AllReadyH.nil
    go_simp
    refine hK.out _ _ (by simp [go_sem]) (fun hHeld => ?_)
    clear hK K
    try simp only [Act.put, List.getElem_toArray, List.getElem_cons_zero, List.getElem_cons_succ, List.setIfInBounds_toArray, List.set_cons_zero, List.set_cons_succ]
    refine wpAnyH_done (by kernel_rfl) ?_ 0
    clear hHeld
    go_wp2_with fail
    refine stashW (fun w4 hw4 => ?_)
    have HB4 := Lib.hid (show Below w.heap.size w w4 from by
      rw [hw4]
      repeat' (first | exact Below.refl _ _ | refine Below.drew ?_ | refine Below.setCell ?_ (show w.heap.size ≤ _ from by simp) _ | refine Below.alloc ?_ (by simp <;> omega) _))
    have hz4 : w4.heap.size = w.heap.size + 4 := by rw [hw4]; simp
    have q0 : w4.cell? ⟨w.heap.size + 2, 0, none⟩ = some (.int .u64 n) := by rw [hw4]; simp [go_sem]
    have q1 : w4.cell? ⟨w.heap.size + 2, 1, none⟩ = some (.int .u64 m) := by rw [hw4]; simp [go_sem]
    have q2 : w4.cell? ⟨w.heap.size + 2, 2, none⟩ = some (.string a) := by rw [hw4]; simp [go_sem]
    have q3 : w4.cell? ⟨w.heap.size + 2, 3, none⟩ = some (.string b) := by rw [hw4]; simp [go_sem]
    have q4 : w4.cell? ⟨w.heap.size + 2, 4, none⟩ = some (.string c) := by rw [hw4]; simp [go_sem]
    have q5 : w4.cell? ⟨w.heap.size + 3, 0, none⟩ = some (.string d) := by rw [hw4]; simp [go_sem]
    have q6 : w4.cell? ⟨w.heap.size + 3, 1, none⟩ = some (.string e) := by rw [hw4]; simp [go_sem]
    have q7 : w4.cell? ⟨w.heap.size + 3, 2, none⟩ = some (.int .u64 k) := by rw [hw4]; simp [go_sem]
    have q8 : w4.cell? ⟨w.heap.size, 8, none⟩ = some (.slice p l cp) := by rw [hw4]; simp [go_sem]
    have HZ := Lib.hid (show (w4.cell? ⟨w.heap.size + 1, 0, none⟩ = some (.bool false) ∧ w4.cell? ⟨w.heap.size + 1, 1, none⟩ = some (.string ⟨#[]⟩) ∧ w4.cell? ⟨w.heap.size + 1, 2, none⟩ = some (.slice none 0 0)) ∧ (∀ j, w4.frozen? ⟨w.heap.size + 1, j, none⟩ = false) from by
      rw [hw4]
      refine ⟨⟨by simp [go_sem], by simp [go_sem], by simp [go_sem]⟩, fun j => by simp [go_sem]⟩)
    have HS := Lib.hid (fun W (hb : Below w4.heap.size w4 W) => (show W.cell? ⟨w.heap.size + 2, 0, none⟩ = some (.int .u64 n) ∧ W.cell? ⟨w.heap.size + 2, 1, none⟩ = some (.int .u64 m) ∧ W.cell? ⟨w.heap.size + 2, 2, none⟩ = some (.string a) ∧ W.cell? ⟨w.heap.size + 2, 3, none⟩ = some (.string b) ∧ W.cell? ⟨w.heap.size + 2, 4, none⟩ = some (.string c) ∧ W.cell? ⟨w.heap.size + 3, 0, none⟩ = some (.string d) ∧ W.cell? ⟨w.heap.size + 3, 1, none⟩ = some (.string e) ∧ W.cell? ⟨w.heap.size + 3, 2, none⟩ = some (.int .u64 k) ∧ W.cell? ⟨w.heap.size, 8, none⟩ = some (.slice p l cp) from ⟨(hb.cell (p := ⟨w.heap.size + 2, 0, none⟩) (by dsimp only; omega)).trans q0, (hb.cell (p := ⟨w.heap.size + 2, 1, none⟩) (by dsimp only; omega)).trans q1, (hb.cell (p := ⟨w.heap.size + 2, 2, none⟩) (by dsimp only; omega)).trans q2, (hb.cell (p := ⟨w.heap.size + 2, 3, none⟩) (by dsimp only; omega)).trans q3, (hb.cell (p := ⟨w.heap.size + 2, 4, none⟩) (by dsimp only; omega)).trans q4, (hb.cell (p := ⟨w.heap.size + 3, 0, none⟩) (by dsimp only; omega)).trans q5, (hb.cell (p := ⟨w.heap.size + 3, 1, none⟩) (by dsimp only; omega)).trans q6, (hb.cell (p := ⟨w.heap.size + 3, 2, none⟩) (by dsimp only; omega)).trans q7, (hb.cell (p := ⟨w.heap.size, 8, none⟩) (by dsimp only; omega)).trans q8⟩))
    clear hw4 q0 q1 q2 q3 q4 q5 q6 q7 q8
    have b4 : Below w4.heap.size w4 w4.drew := (Below.refl _ _).drew
    refine wp_region_held_drew (S := (fun W => W.cell? ⟨w.heap.size + 2, 0, none⟩ = some (.int .u64 n) ∧ W.cell? ⟨w.heap.size + 2, 1, none⟩ = some (.int .u64 m) ∧ W.cell? ⟨w.heap.size + 2, 2, none⟩ = some (.string a) ∧ W.cell? ⟨w.heap.size + 2, 3, none⟩ = some (.string b) ∧ W.cell? ⟨w.heap.size + 2, 4, none⟩ = some (.string c) ∧ W.cell? ⟨w.heap.size + 3, 0, none⟩ = some (.string d) ∧ W.cell? ⟨w.heap.size + 3, 1, none⟩ = some (.string e) ∧ W.cell? ⟨w.heap.size + 3, 2, none⟩ = some (.int .u64 k) ∧ W.cell? ⟨w.heap.size, 8, none⟩ = some (.slice p l cp))) (by kernel_rfl) (HS.out _ b4) (fun hHeld => ?_)
    refine wpAnyH_take (i := 0) (v := ?_) rfl (by kernel_rfl) (by kernel_rfl) (by kernel_rfl) (fun _ _ _ h => h) (.inl ⟨by rfl, ?_⟩) (by assumption) ?_
    rotate_left 1
    · intro w0 hSw
      go_simp <;> with_reducible rfl
    try simp only [Act.put, List.getElem_toArray, List.getElem_cons_zero, List.setIfInBounds_toArray, List.set_cons_zero, List.set_cons_succ]
    refine wpAnyH_take (i := 1) (v := ?_) rfl (by kernel_rfl) (by kernel_rfl) (by kernel_rfl) (fun _ _ _ h => h) (.inl ⟨by rfl, ?_⟩) (by assumption) ?_
    rotate_left 1
    · intro w0 hSw
      obtain ⟨z0, z1, z2, z3, z4, z5, z6, z7, z8⟩ := hSw
      go_simp <;> with_reducible rfl
    try simp only [Act.put, List.getElem_toArray, List.getElem_cons_zero, List.getElem_cons_succ, List.setIfInBounds_toArray, List.set_cons_zero, List.set_cons_succ]
    refine wpAnyH_take (i := 3) (v := ?_) rfl (by kernel_rfl) (by kernel_rfl) (by kernel_rfl) (fun _ _ _ h => h) (.inl ⟨by rfl, ?_⟩) (by assumption) ?_
    rotate_left 1
    · intro w0 hSw
      go_simp <;> with_reducible rfl
    try simp only [Act.put, List.getElem_toArray, List.getElem_cons_zero, List.getElem_cons_succ, List.setIfInBounds_toArray, List.set_cons_zero, List.set_cons_succ]
    refine wpAnyH_take (i := 4) (v := ?_) rfl (by kernel_rfl) (by kernel_rfl) (by kernel_rfl) (fun _ _ _ h => h) (.inl ⟨by rfl, ?_⟩) (by assumption) ?_
    rotate_left 1
    · intro w0 hSw
      obtain ⟨z0, z1, z2, z3, z4, z5, z6, z7, z8⟩ := hSw
      go_simp <;> with_reducible rfl
    try simp only [Act.put, List.getElem_toArray, List.getElem_cons_zero, List.getElem_cons_succ, List.setIfInBounds_toArray, List.set_cons_zero, List.set_cons_succ]
    refine wpAnyH_take (i := 6) (v := ?_) rfl (by kernel_rfl) (by kernel_rfl) (by kernel_rfl) (fun _ _ _ h => h) (.inl ⟨by rfl, ?_⟩) (by assumption) ?_
    rotate_left 1
    · intro w0 hSw
      go_simp <;> with_reducible rfl
    try simp only [Act.put, List.getElem_toArray, List.getElem_cons_zero, List.getElem_cons_succ, List.setIfInBounds_toArray, List.set_cons_zero, List.set_cons_succ]
    refine wpAnyH_take (i := 7) (v := ?_) rfl (by kernel_rfl) (by kernel_rfl) (by kernel_rfl) (fun _ _ _ h => h) (.inl ⟨by rfl, ?_⟩) (by assumption) ?_
    rotate_left 1
    · intro w0 hSw
      obtain ⟨z0, z1, z2, z3, z4, z5, z6, z7, z8⟩ := hSw
      go_simp <;> with_reducible rfl
    try simp only [Act.put, List.getElem_toArray, List.getElem_cons_zero, List.getElem_cons_succ, List.setIfInBounds_toArray, List.set_cons_zero, List.set_cons_succ]
    refine wpAnyH_take (i := 9) (v := ?_) rfl (by kernel_rfl) (by kernel_rfl) (by kernel_rfl) (fun _ _ _ h => h) (.inl ⟨by rfl, ?_⟩) (by assumption) ?_
    rotate_left 1
    · intro w0 hSw
      go_simp <;> with_reducible rfl
    try simp only [Act.put, List.getElem_toArray, List.getElem_cons_zero, List.getElem_cons_succ, List.setIfInBounds_toArray, List.set_cons_zero, List.set_cons_succ]
    refine wpAnyH_take (i := 10) (v := ?_) rfl (by kernel_rfl) (by kernel_rfl) (by kernel_rfl) (fun _ _ _ h => h) (.inl ⟨by rfl, ?_⟩) (by assumption) ?_
    rotate_left 1
    · intro w0 hSw
      obtain ⟨z0, z1, z2, z3, z4, z5, z6, z7, z8⟩ := hSw
      go_simp <;> with_reducible rfl
    try simp only [Act.put, List.getElem_toArray, List.getElem_cons_zero, List.getElem_cons_succ, List.setIfInBounds_toArray, List.set_cons_zero, List.set_cons_succ]
    refine wpAnyH_take (i := 12) (v := ?_) rfl (by kernel_rfl) (by kernel_rfl) (by kernel_rfl) (fun _ _ _ h => h) (.inl ⟨by rfl, ?_⟩) (by assumption) ?_
    rotate_left 1
    · intro w0 hSw
      go_simp <;> with_reducible rfl
    try simp only [Act.put, List.getElem_toArray, List.getElem_cons_zero, List.getElem_cons_succ, List.setIfInBounds_toArray, List.set_cons_zero, List.set_cons_succ]
    refine wpAnyH_take (i := 13) (v := ?_) rfl (by kernel_rfl) (by kernel_rfl) (by kernel_rfl) (fun _ _ _ h => h) (.inl ⟨by rfl, ?_⟩) (by assumption) ?_
    rotate_left 1
    · intro w0 hSw
      obtain ⟨z0, z1, z2, z3, z4, z5, z6, z7, z8⟩ := hSw
      go_simp <;> with_reducible rfl
    try simp only [Act.put, List.getElem_toArray, List.getElem_cons_zero, List.getElem_cons_succ, List.setIfInBounds_toArray, List.set_cons_zero, List.set_cons_succ]
    refine wpAnyH_take (i := 17) (v := ?_) rfl (by kernel_rfl) (by kernel_rfl) (by kernel_rfl) (fun _ _ _ h => h) (.inl ⟨by rfl, ?_⟩) (by assumption) ?_
    rotate_left 1
    · intro w0 hSw
      go_simp <;> with_reducible rfl
    try simp only [Act.put, List.getElem_toArray, List.getElem_cons_zero, List.getElem_cons_succ, List.setIfInBounds_toArray, List.set_cons_zero, List.set_cons_succ]
    refine wpAnyH_take (i := 18) (v := ?_) rfl (by kernel_rfl) (by kernel_rfl) (by kernel_rfl) (fun _ _ _ h => h) (.inl ⟨by rfl, ?_⟩) (by assumption) ?_
    rotate_left 1
    · intro w0 hSw
      obtain ⟨z0, z1, z2, z3, z4, z5, z6, z7, z8⟩ := hSw
      go_simp <;> with_reducible rfl
    try simp only [Act.put, List.getElem_toArray, List.getElem_cons_zero, List.getElem_cons_succ, List.setIfInBounds_toArray, List.set_cons_zero, List.set_cons_succ]
    refine wpAnyH_take (i := 20) (v := ?_) rfl (by kernel_rfl) (by kernel_rfl) (by kernel_rfl) (fun _ _ _ h => h) (.inl ⟨by rfl, ?_⟩) (by assumption) ?_
    rotate_left 1
    · intro w0 hSw
      go_simp <;> with_reducible rfl
    try simp only [Act.put, List.getElem_toArray, List.getElem_cons_zero, List.getElem_cons_succ, List.setIfInBounds_toArray, List.set_cons_zero, List.set_cons_succ]
    refine wpAnyH_take (i := 21) (v := ?_) rfl (by kernel_rfl) (by kernel_rfl) (by kernel_rfl) (fun _ _ _ h => h) (.inl ⟨by rfl, ?_⟩) (by assumption) ?_
    rotate_left 1
    · intro w0 hSw
      obtain ⟨z0, z1, z2, z3, z4, z5, z6, z7, z8⟩ := hSw
      go_simp <;> with_reducible rfl
    try simp only [Act.put, List.getElem_toArray, List.getElem_cons_zero, List.getElem_cons_succ, List.setIfInBounds_toArray, List.set_cons_zero, List.set_cons_succ]
    refine wpAnyH_take (i := 23) (v := ?_) rfl (by kernel_rfl) (by kernel_rfl) (by kernel_rfl) (fun _ _ _ h => h) (.inl ⟨by rfl, ?_⟩) (by assumption) ?_
    rotate_left 1
    · intro w0 hSw
      go_simp <;> with_reducible rfl
    try simp only [Act.put, List.getElem_toArray, List.getElem_cons_zero, List.getElem_cons_succ, List.setIfInBounds_toArray, List.set_cons_zero, List.set_cons_succ]
    refine wpAnyH_take (i := 24) (v := ?_) rfl (by kernel_rfl) (by kernel_rfl) (by kernel_rfl) (fun _ _ _ h => h) (.inl ⟨by rfl, ?_⟩) (by assumption) ?_
    rotate_left 1
    · intro w0 hSw
      obtain ⟨z0, z1, z2, z3, z4, z5, z6, z7, z8⟩ := hSw
      go_simp <;> with_reducible rfl
    try simp only [Act.put, List.getElem_toArray, List.getElem_cons_zero, List.getElem_cons_succ, List.setIfInBounds_toArray, List.set_cons_zero, List.set_cons_succ]
    refine wpAnyH_take (i := 28) (v := ?_) rfl (by kernel_rfl) (by kernel_rfl) (by kernel_rfl) (fun _ _ _ h => h) (.inl ⟨by rfl, ?_⟩) (by assumption) ?_
    rotate_left 1
    · intro w0 hSw
      go_simp <;> with_reducible rfl
    try simp only [Act.put, List.getElem_toArray, List.getElem_cons_zero, List.getElem_cons_succ, List.setIfInBounds_toArray, List.set_cons_zero, List.set_cons_succ]
    refine wpAnyH_take (i := 29) (v := ?_) rfl (by kernel_rfl) (by kernel_rfl) (by kernel_rfl) (fun _ _ _ h => h) (.inl ⟨by rfl, ?_⟩) (by assumption) ?_
    rotate_left 1
    · intro w0 hSw
      obtain ⟨z0, z1, z2, z3, z4, z5, z6, z7, z8⟩ := hSw
      go_simp <;> with_reducible rfl
    try simp only [Act.put, List.getElem_toArray, List.getElem_cons_zero, List.getElem_cons_succ, List.setIfInBounds_toArray, List.set_cons_zero, List.set_cons_succ]
    refine wpAnyH_ready (rs := [2]) (by kernel_rfl) (by simp) ?_
    refine AllReadyH.cons rfl (fun K hK => ?_) AllReadyH.nil
    go_simp
    go_at_call 71
    refine (HN.out _).mono ?_
    rintro z w5 ⟨rfl, hb5⟩
    have b5 : Below w4.heap.size w4 w5 := b4.trans (hb5.mono b4.size)
    clear hb5
    refine hK.out _ _ (HS.out _ b5) (fun hHeld => ?_)
    clear hK K
    try simp only [Act.put, List.getElem_toArray, List.getElem_cons_zero, List.getElem_cons_succ, List.setIfInBounds_toArray, List.set_cons_zero, List.set_cons_succ]
    refine wpAnyH_ready (rs := [5]) (by kernel_rfl) (by simp) ?_
    refine AllReadyH.cons rfl (fun K hK => ?_) AllReadyH.nil
    go_simp
    go_at_call 71
    refine (HM.out _).mono ?_
    rintro z w6 ⟨rfl, hb6⟩
    have b6 : Below w4.heap.size w4 w6 := b5.trans (hb6.mono b5.size)
    clear hb6
    refine hK.out _ _ (HS.out _ b6) (fun hHeld => ?_)
    clear hK K
    try simp only [Act.put, List.getElem_toArray, List.getElem_cons_zero, List.getElem_cons_succ, List.setIfInBounds_toArray, List.set_cons_zero, List.set_cons_succ]
    refine wpAnyH_ready (rs := [8]) (by kernel_rfl) (by simp) ?_
    refine AllReadyH.cons rfl (fun K hK => ?_) AllReadyH.nil
    go_simp
    go_at_call 72
    refine (text_any a _).mono ?_
    rintro z w7 ⟨rfl, hb7⟩
    have b7 : Below w4.heap.size w4 w7 := b6.trans (hb7.mono b6.size)
    clear hb7
    refine hK.out _ _ (HS.out _ b7) (fun hHeld => ?_)
    clear hK K
    try simp only [Act.put, List.getElem_toArray, List.getElem_cons_zero, List.getElem_cons_succ, List.setIfInBounds_toArray, List.set_cons_zero, List.set_cons_succ]
    refine wpAnyH_ready (rs := [11]) (by kernel_rfl) (by simp) ?_
    refine AllReadyH.cons rfl (fun K hK => ?_) AllReadyH.nil
    go_simp
    go_at_call 72
    refine (text_any b _).mono ?_
    rintro z w8 ⟨rfl, hb8⟩
    have b8 : Below w4.heap.size w4 w8 := b7.trans (hb8.mono b7.size)
    clear hb8
    refine hK.out _ _ (HS.out _ b8) (fun hHeld => ?_)
    clear hK K
    try simp only [Act.put, List.getElem_toArray, List.getElem_cons_zero, List.getElem_cons_succ, List.setIfInBounds_toArray, List.set_cons_zero, List.set_cons_succ]
    refine wpAnyH_ready (rs := [14]) (by kernel_rfl) (by simp) ?_
    refine AllReadyH.cons rfl (fun K hK => ?_) AllReadyH.nil
    go_simp
    go_at_call 72
    refine (text_any c _).mono ?_
    rintro z w9 ⟨rfl, hb9⟩
    have b9 : Below w4.heap.size w4 w9 := b8.trans (hb9.mono b8.size)
    clear hb9
    refine hK.out _ _ (HS.out _ b9) (fun hHeld => ?_)
    clear hK K
    try simp only [Act.put, List.getElem_toArray, List.getElem_cons_zero, List.getElem_cons_succ, List.setIfInBounds_toArray, List.set_cons_zero, List.set_cons_succ]
    refine wpAnyH_ready (rs := [15]) (by kernel_rfl) (by simp) ?_
    refine AllReadyH.cons rfl (fun K hK => ?_) AllReadyH.nil
    go_simp
    have hal : ∃ W, w9.alloc (.cells #[.bool false, .string ⟨(num n).toArray⟩, .slice none 0 0, .bool false, .string ⟨(num m).toArray⟩, .slice none 0 0, .bool false, .string a, .slice none 0 0, .bool false, .string b, .slice none 0 0, .bool false, .string c, .slice none 0 0] 80) = W := ⟨_, rfl⟩
    obtain ⟨w10, hal⟩ := hal
    have hb10 : Below w9.heap.size w9 w10 := by rw [← hal]; exact (Below.refl _ _).alloc (Nat.le_refl _) _
    have b10 : Below w4.heap.size w4 w10 := b9.trans (hb10.mono b9.size)
    have HA_10 := Lib.hid (show RIn w10 w4.heap.size (.slice (some ⟨w9.heap.size, 0, none⟩) 5 5) [itN n, itN m, itT a, itT b, itT c] from by
      rw [← hal]
      refine reads_new w9 w4.heap.size 5 [(itN n, .slice none 0 0), (itN m, .slice none 0 0), (itT a, .slice none 0 0), (itT b, .slice none 0 0), (itT c, .slice none 0 0)] rfl b9.size (fun q hq => ?_)
      simp only [List.mem_cons, List.not_mem_nil, or_false] at hq
      rcases hq with rfl | rfl | rfl | rfl | rfl
      · exact RIn.nil _ _
      · exact RIn.nil _ _
      · exact RIn.nil _ _
      · exact RIn.nil _ _
      · exact RIn.nil _ _)
    rw [hal]
    clear hal hb10 
    refine hK.out _ _ (HS.out _ b10) (fun hHeld => ?_)
    clear hK K
    try simp only [Act.put, List.getElem_toArray, List.getElem_cons_zero, List.getElem_cons_succ, List.setIfInBounds_toArray, List.set_cons_zero, List.set_cons_succ]
    refine wpAnyH_ready (rs := [16]) (by kernel_rfl) (by simp) ?_
    refine AllReadyH.cons rfl (fun K hK => ?_) AllReadyH.nil
    go_simp
    go_at_call 62
    refine (list_any _ _ _ _).mono ?_
    rintro z w11 ⟨rfl, hb11⟩
    have b11 : Below w4.heap.size w4 w11 := b10.trans (hb11.mono b10.size)
    have HA_11 := Lib.hid (HA_10.out.below hb11)
    clear HA_10
    clear hb11
    refine hK.out _ _ (HS.out _ b11) (fun hHeld => ?_)
    clear hK K
    try simp only [Act.put, List.getElem_toArray, List.getElem_cons_zero, List.getElem_cons_succ, List.setIfInBounds_toArray, List.set_cons_zero, List.set_cons_succ]
    refine wpAnyH_ready (rs := [19]) (by kernel_rfl) (by simp) ?_
    refine AllReadyH.cons rfl (fun K hK => ?_) AllReadyH.nil
    go_simp
    go_at_call 72
    refine (text_any d _).mono ?_
    rintro z w12 ⟨rfl, hb12⟩
    have b12 : Below w4.heap.size w4 w12 := b11.trans (hb12.mono b11.size)
    have HA_12 := Lib.hid (HA_11.out.below hb12)
    clear HA_11
    clear hb12
    refine hK.out _ _ (HS.out _ b12) (fun hHeld => ?_)
    clear hK K
    try simp only [Act.put, List.getElem_toArray, List.getElem_cons_zero, List.getElem_cons_succ, List.setIfInBounds_toArray, List.set_cons_zero, List.set_cons_succ]
    refine wpAnyH_ready (rs := [22]) (by kernel_rfl) (by simp) ?_
    refine AllReadyH.cons rfl (fun K hK => ?_) AllReadyH.nil
    go_simp
    go_at_call 72
    refine (text_any e _).mono ?_
    rintro z w13 ⟨rfl, hb13⟩
    have b13 : Below w4.heap.size w4 w13 := b12.trans (hb13.mono b12.size)
    have HA_13 := Lib.hid (HA_12.out.below hb13)
    clear HA_12
    clear hb13
    refine hK.out _ _ (HS.out _ b13) (fun hHeld => ?_)
    clear hK K
    try simp only [Act.put, List.getElem_toArray, List.getElem_cons_zero, List.getElem_cons_succ, List.setIfInBounds_toArray, List.set_cons_zero, List.set_cons_succ]
    refine wpAnyH_ready (rs := [25]) (by kernel_rfl) (by simp) ?_
    refine AllReadyH.cons rfl (fun K hK => ?_) AllReadyH.nil
    go_simp
    go_at_call 71
    refine (HK.out _).mono ?_
    rintro z w14 ⟨rfl, hb14⟩
    have b14 : Below w4.heap.size w4 w14 := b13.trans (hb14.mono b13.size)
    have HA_14 := Lib.hid (HA_13.out.below hb14)
    clear HA_13
    clear hb14
    refine hK.out _ _ (HS.out _ b14) (fun hHeld => ?_)
    clear hK K
    try simp only [Act.put, List.getElem_toArray, List.getElem_cons_zero, List.getElem_cons_succ, List.setIfInBounds_toArray, List.set_cons_zero, List.set_cons_succ]
    refine wpAnyH_ready (rs := [26]) (by kernel_rfl) (by simp) ?_
    refine AllReadyH.cons rfl (fun K hK => ?_) AllReadyH.nil
    go_simp
    have hal : ∃ W, w14.alloc (.cells #[.bool false, .string d, .slice none 0 0, .bool false, .string e, .slice none 0 0, .bool false, .string ⟨(num k).toArray⟩, .slice none 0 0] 80) = W := ⟨_, rfl⟩
    obtain ⟨w15, hal⟩ := hal
    have hb15 : Below w14.heap.size w14 w15 := by rw [← hal]; exact (Below.refl _ _).alloc (Nat.le_refl _) _
    have b15 : Below w4.heap.size w4 w15 := b14.trans (hb15.mono b14.size)
    have HX_15 := Lib.hid (show RIn w15 w4.heap.size (.slice (some ⟨w14.heap.size, 0, none⟩) 3 3) [itT d, itT e, itN k] from by
      rw [← hal]
      refine reads_new w14 w4.heap.size 3 [(itT d, .slice none 0 0), (itT e, .slice none 0 0), (itN k, .slice none 0 0)] rfl b14.size (fun q hq => ?_)
      simp only [List.mem_cons, List.not_mem_nil, or_false] at hq
      rcases hq with rfl | rfl | rfl
      · exact RIn.nil _ _
      · exact RIn.nil _ _
      · exact RIn.nil _ _)
    have HA_15 := Lib.hid (HA_14.out.below hb15)
    rw [hal]
    clear hal hb15 HA_14
    refine hK.out _ _ (HS.out _ b15) (fun hHeld => ?_)
    clear hK K
    try simp only [Act.put, List.getElem_toArray, List.getElem_cons_zero, List.getElem_cons_succ, List.setIfInBounds_toArray, List.set_cons_zero, List.set_cons_succ]
    refine wpAnyH_ready (rs := [27]) (by kernel_rfl) (by simp) ?_
    refine AllReadyH.cons rfl (fun K hK => ?_) AllReadyH.nil
    go_simp
    go_at_call 62
    refine (list_any _ _ _ _).mono ?_
    rintro z w16 ⟨rfl, hb16⟩
    have b16 : Below w4.heap.size w4 w16 := b15.trans (hb16.mono b15.size)
    have HA_16 := Lib.hid (HA_15.out.below hb16)
    have HX_16 := Lib.hid (HX_15.out.below hb16)
    clear HA_15 HX_15
    clear hb16
    refine hK.out _ _ (HS.out _ b16) (fun hHeld => ?_)
    clear hK K
    try simp only [Act.put, List.getElem_toArray, List.getElem_cons_zero, List.getElem_cons_succ, List.setIfInBounds_toArray, List.set_cons_zero, List.set_cons_succ]
    refine wpAnyH_ready (rs := [30]) (by kernel_rfl) (by simp) ?_
    refine AllReadyH.cons rfl (fun K hK => ?_) AllReadyH.nil
    go_simp
    go_at_call 65
    refine (HT.out _ (HV.out.below (HB4.out.trans (b16.mono HB4.out.size)))).mono ?_
    rintro z w17 ⟨pt, nt, ct, rfl, hrt, hb17⟩
    have b17 : Below w4.heap.size w4 w17 := b16.trans (hb17.mono b16.size)
    have HA_17 := Lib.hid (HA_16.out.below hb17)
    have HX_17 := Lib.hid (HX_16.out.below hb17)
    clear HA_16 HX_16
    have HT2_17 := Lib.hid (RIn.mono hrt b16.size)
    clear hrt
    clear hb17
    refine hK.out _ _ (HS.out _ b17) (fun hHeld => ?_)
    clear hK K
    try simp only [Act.put, List.getElem_toArray, List.getElem_cons_zero, List.getElem_cons_succ, List.setIfInBounds_toArray, List.set_cons_zero, List.set_cons_succ]
    refine wpAnyH_ready (rs := [31]) (by kernel_rfl) (by simp) ?_
    refine AllReadyH.cons rfl (fun K hK => ?_) AllReadyH.nil
    go_simp
    have hal : ∃ W, w17.alloc (.cells #[.bool true, .string ⟨#[]⟩, .slice (some ⟨w9.heap.size, 0, none⟩) 5 5, .bool true, .string ⟨#[]⟩, .slice (some ⟨w14.heap.size, 0, none⟩) 3 3, .bool true, .string ⟨#[]⟩, .slice pt nt ct] 80) = W := ⟨_, rfl⟩
    obtain ⟨w18, hal⟩ := hal
    have hb18 : Below w17.heap.size w17 w18 := by rw [← hal]; exact (Below.refl _ _).alloc (Nat.le_refl _) _
    have b18 : Below w4.heap.size w4 w18 := b17.trans (hb18.mono b17.size)
    have HL_18 := Lib.hid (show RIn w18 w4.heap.size (.slice (some ⟨w17.heap.size, 0, none⟩) 3 3) [itL [itN n, itN m, itT a, itT b, itT c], itL [itT d, itT e, itN k], itTs br] from by
      rw [← hal]
      refine reads_new w17 w4.heap.size 3 [(itL [itN n, itN m, itT a, itT b, itT c], .slice (some ⟨w9.heap.size, 0, none⟩) 5 5), (itL [itT d, itT e, itN k], .slice (some ⟨w14.heap.size, 0, none⟩) 3 3), (itTs br, .slice pt nt ct)] rfl b17.size (fun q hq => ?_)
      simp only [List.mem_cons, List.not_mem_nil, or_false] at hq
      rcases hq with rfl | rfl | rfl
      · exact HA_17.out
      · exact HX_17.out
      · exact HT2_17.out)
    rw [hal]
    clear hal hb18 HA_17 HX_17 HT2_17
    refine hK.out _ _ (HS.out _ b18) (fun hHeld => ?_)
    clear hK K
    try simp only [Act.put, List.getElem_toArray, List.getElem_cons_zero, List.getElem_cons_succ, List.setIfInBounds_toArray, List.set_cons_zero, List.set_cons_succ]
    refine wpAnyH_ready (rs := [32]) (by kernel_rfl) (by simp) ?_
    refine AllReadyH.cons rfl (fun K hK => ?_) AllReadyH.nil
    go_simp
    go_at_call 62
    refine (list_any _ _ _ _).mono ?_
    rintro z w19 ⟨rfl, hb19⟩
    have b19 : Below w4.heap.size w4 w19 := b18.trans (hb19.mono b18.size)
    have HL_19 := Lib.hid (HL_18.out.below hb19)
    clear HL_18
    clear hb19
    refine hK.out _ _ (HS.out _ b19) (fun hHeld => ?_)
    clear hK K
    try simp only [Act.put, List.getElem_toArray, List.getElem_cons_zero, List.getElem_cons_succ, List.setIfInBounds_toArray, List.set_cons_zero, List.set_cons_succ]
    obtain ⟨⟨y0, y1, y2⟩, yf⟩ := HZ.out
    have p0 := (b19.cell (p := ⟨w.heap.size + 1, 0, none⟩) (by dsimp only; omega)).trans y0
    have p1 := (b19.cell (p := ⟨w.heap.size + 1, 1, none⟩) (by dsimp only; omega)).trans y1
    have p2 := (b19.cell (p := ⟨w.heap.size + 1, 2, none⟩) (by dsimp only; omega)).trans y2
    have f0 := (b19.frozen (p := ⟨w.heap.size + 1, 0, none⟩) (by dsimp only; omega)).trans (yf 0)
    have f1 := (b19.frozen (p := ⟨w.heap.size + 1, 1, none⟩) (by dsimp only; omega)).trans (yf 1)
    have f2 := (b19.frozen (p := ⟨w.heap.size + 1, 2, none⟩) (by dsimp only; omega)).trans (yf 2)
    clear y0 y1 y2 yf
    refine wpAnyH_ready (rs := [33]) (by kernel_rfl) (by simp) ?_
    refine AllReadyH.cons rfl (fun K hK => ?_) AllReadyH.nil
    go_simp
    refine hK.out _ _ (⟨three_other hHeld.1 (by omega) _ _ _, three_other hHeld.2.1 (by omega) _ _ _, three_other hHeld.2.2.1 (by omega) _ _ _, three_other hHeld.2.2.2.1 (by omega) _ _ _, three_other hHeld.2.2.2.2.1 (by omega) _ _ _, three_other hHeld.2.2.2.2.2.1 (by omega) _ _ _, three_other hHeld.2.2.2.2.2.2.1 (by omega) _ _ _, three_other hHeld.2.2.2.2.2.2.2.1 (by omega) _ _ _, three_other hHeld.2.2.2.2.2.2.2.2 (by omega) _ _ _⟩) (fun hHeld => ?_)
    clear hK K
    try simp only [Act.put, List.getElem_toArray, List.getElem_cons_zero, List.getElem_cons_succ, List.setIfInBounds_toArray, List.set_cons_zero, List.set_cons_succ]
    refine wpAnyH_done (by kernel_rfl) ?_ 0
    go_wp2_with fail
    refine bodyPost_ret (results_item0 rfl _ _ (w.heap.size + 1) (.bool true) (.string ⟨#[]⟩) (.slice (some ⟨w17.heap.size, 0, none⟩) 3 3) rfl ?_ ?_ ?_) rfl ?_
    · simp [go_sem, p0]
    · simp [go_sem, p1]
    · simp [go_sem, p2]
    have hb8 : Below w.heap.size w w19 := HB4.out.trans (b19.mono HB4.out.size)
    refine ⟨_, _, _, rfl, ?_, ((hb8.setCell (p := ⟨w.heap.size + 1, 0, none⟩) (Nat.le_succ _) _).setCell (p := ⟨w.heap.size + 1, 1, none⟩) (Nat.le_succ _) _).setCell (p := ⟨w.heap.size + 1, 2, none⟩) (Nat.le_succ _) _⟩
    exact RIn.mono (((HL_19.out.store (g := w.heap.size + 1) (by omega) _).store (g := w.heap.size + 1) (by omega) _).store (g := w.heap.size + 1) (by omega) _) (by omega)
  · go_simp
    refine hK.out _ _ (by simp [go_sem]) (fun hHeld => ?_)
    clear hK K
    try simp only [Act.put, List.getElem_toArray, List.getElem_cons_zero, List.getElem_cons_succ, List.setIfInBounds_toArray, List.set_cons_zero, List.set_cons_succ]
    refine wpAnyH_ready (rs := [4]) (by kernel_rfl) (by simp) ?_
    refine AllReadyH.cons rfl (fun K hK => ?_) AllReadyH.nil
    go_simp
    refine hK.out _ _ (by simp [go_sem]) (fun hHeld => ?_)
    clear hK K
    try simp only [Act.put, List.getElem_toArray, List.getElem_cons_zero, List.getElem_cons_succ, List.setIfInBounds_toArray, List.set_cons_zero, List.set_cons_succ]
    refine wpAnyH_ready (rs := [6]) (by kernel_rfl) (by simp) ?_
    refine AllReadyH.cons rfl (fun K hK => ?_) AllReadyH.nil
    go_simp
    refine hK.out _ _ (by simp [go_sem]) (fun hHeld => ?_)
    clear hK K
    try simp only [Act.put, List.getElem_toArray, List.getElem_cons_zero, List.getElem_cons_succ, List.setIfInBounds_toArray, List.set_cons_zero, List.set_cons_succ]
    refine wpAnyH_ready (rs := [7]) (by kernel_rfl) (by simp) ?_
    refine AllReadyH.cons rfl (fun K hK => ?_) AllReadyH.nil
    go_simp
    refine hK.out _ _ (by simp [go_sem]) (fun hHeld => ?_)
    clear hK K
    try simp only [Act.put, List.getElem_toArray, List.getElem_cons_zero, List.getElem_cons_succ, List.setIfInBounds_toArray, List.set_cons_zero, List.set_cons_succ]
    refine wpAnyH_done (by kernel_rfl) ?_ 0
    clear hHeld
    go_wp2_with fail
    refine stashW (fun w4 hw4 => ?_)
    have HB4 := Lib.hid (show Below w.heap.size w w4 from by
      rw [hw4]
      repeat' (first | exact Below.refl _ _ | refine Below.drew ?_ | refine Below.setCell ?_ (show w.heap.size ≤ _ from by simp) _ | refine Below.alloc ?_ (by simp <;> omega) _))
    have hz4 : w4.heap.size = w.heap.size + 4 := by rw [hw4]; simp
    have q0 : w4.cell? ⟨w.heap.size + 3, 0, none⟩ = some (.int .u64 n) := by rw [hw4]; simp [go_sem]
    have q1 : w4.cell? ⟨w.heap.size + 3, 1, none⟩ = some (.int .u64 m) := by rw [hw4]; simp [go_sem]
    have q2 : w4.cell? ⟨w.heap.size + 3, 2, none⟩ = some (.string a) := by rw [hw4]; simp [go_sem]
    have q3 : w4.cell? ⟨w.heap.size + 3, 3, none⟩ = some (.string b) := by rw [hw4]; simp [go_sem]
    have q4 : w4.cell? ⟨w.heap.size + 3, 4, none⟩ = some (.string c) := by rw [hw4]; simp [go_sem]
    have q5 : w4.cell? ⟨w.heap.size + 2, 0, none⟩ = some (.string d) := by rw [hw4]; simp [go_sem]
    have q6 : w4.cell? ⟨w.heap.size + 2, 1, none⟩ = some (.string e) := by rw [hw4]; simp [go_sem]
    have q7 : w4.cell? ⟨w.heap.size + 2, 2, none⟩ = some (.int .u64 k) := by rw [hw4]; simp [go_sem]
    have q8 : w4.cell? ⟨w.heap.size, 8, none⟩ = some (.slice p l cp) := by rw [hw4]; simp [go_sem]
    have HZ := Lib.hid (show (w4.cell? ⟨w.heap.size + 1, 0, none⟩ = some (.bool false) ∧ w4.cell? ⟨w.heap.size + 1, 1, none⟩ = some (.string ⟨#[]⟩) ∧ w4.cell? ⟨w.heap.size + 1, 2, none⟩ = some (.slice none 0 0)) ∧ (∀ j, w4.frozen? ⟨w.heap.size + 1, j, none⟩ = false) from by
      rw [hw4]
      refine ⟨⟨by simp [go_sem], by simp [go_sem], by simp [go_sem]⟩, fun j => by simp [go_sem]⟩)
    have HS := Lib.hid (fun W (hb : Below w4.heap.size w4 W) => (show W.cell? ⟨w.heap.size + 3, 0, none⟩ = some (.int .u64 n) ∧ W.cell? ⟨w.heap.size + 3, 1, none⟩ = some (.int .u64 m) ∧ W.cell? ⟨w.heap.size + 3, 2, none⟩ = some (.string a) ∧ W.cell? ⟨w.heap.size + 3, 3, none⟩ = some (.string b) ∧ W.cell? ⟨w.heap.size + 3, 4, none⟩ = some (.string c) ∧ W.cell? ⟨w.heap.size + 2, 0, none⟩ = some (.string d) ∧ W.cell? ⟨w.heap.size + 2, 1, none⟩ = some (.string e) ∧ W.cell? ⟨w.heap.size + 2, 2, none⟩ = some (.int .u64 k) ∧ W.cell? ⟨w.heap.size, 8, none⟩ = some (.slice p l cp) from ⟨(hb.cell (p := ⟨w.heap.size + 3, 0, none⟩) (by dsimp only; omega)).trans q0, (hb.cell (p := ⟨w.heap.size + 3, 1, none⟩) (by dsimp only; omega)).trans q1, (hb.cell (p := ⟨w.heap.size + 3, 2, none⟩) (by dsimp only; omega)).trans q2, (hb.cell (p := ⟨w.heap.size + 3, 3, none⟩) (by dsimp only; omega)).trans q3, (hb.cell (p := ⟨w.heap.size + 3, 4, none⟩) (by dsimp only; omega)).trans q4, (hb.cell (p := ⟨w.heap.size + 2, 0, none⟩) (by dsimp only; omega)).trans q5, (hb.cell (p := ⟨w.heap.size + 2, 1, none⟩) (by dsimp only; omega)).trans q6, (hb.cell (p := ⟨w.heap.size + 2, 2, none⟩) (by dsimp only; omega)).trans q7, (hb.cell (p := ⟨w.heap.size, 8, none⟩) (by dsimp only; omega)).trans q8⟩))
    clear hw4 q0 q1 q2 q3 q4 q5 q6 q7 q8
    have b4 : Below w4.heap.size w4 w4.drew := (Below.refl _ _).drew
    refine wp_region_held_drew (S := (fun W => W.cell? ⟨w.heap.size + 3, 0, none⟩ = some (.int .u64 n) ∧ W.cell? ⟨w.heap.size + 3, 1, none⟩ = some (.int .u64 m) ∧ W.cell? ⟨w.heap.size + 3, 2, none⟩ = some (.string a) ∧ W.cell? ⟨w.heap.size + 3, 3, none⟩ = some (.string b) ∧ W.cell? ⟨w.heap.size + 3, 4, none⟩ = some (.string c) ∧ W.cell? ⟨w.heap.size + 2, 0, none⟩ = some (.string d) ∧ W.cell? ⟨w.heap.size + 2, 1, none⟩ = some (.string e) ∧ W.cell? ⟨w.heap.size + 2, 2, none⟩ = some (.int .u64 k) ∧ W.cell? ⟨w.heap.size, 8, none⟩ = some (.slice p l cp))) (by kernel_rfl) (HS.out _ b4) (fun hHeld => ?_)
    refine wpAnyH_take (i := 0) (v := ?_) rfl (by kernel_rfl) (by kernel_rfl) (by kernel_rfl) (fun _ _ _ h => h) (.inl ⟨by rfl, ?_⟩) (by assumption) ?_
    rotate_left 1
    · intro w0 hSw
      go_simp <;> with_reducible rfl
    try simp only [Act.put, List.getElem_toArray, List.getElem_cons_zero, List.setIfInBounds_toArray, List.set_cons_zero, List.set_cons_succ]
    refine wpAnyH_take (i := 1) (v := ?_) rfl (by kernel_rfl) (by kernel_rfl) (by kernel_rfl) (fun _ _ _ h => h) (.inl ⟨by rfl, ?_⟩) (by assumption) ?_
    rotate_left 1
    · intro w0 hSw
      obtain ⟨z0, z1, z2, z3, z4, z5, z6, z7, z8⟩ := hSw
      go_simp <;> with_reducible rfl
    try simp only [Act.put, List.getElem_toArray, List.getElem_cons_zero, List.getElem_cons_succ, List.setIfInBounds_toArray, List.set_cons_zero, List.set_cons_succ]
    refine wpAnyH_take (i := 3) (v := ?_) rfl (by kernel_rfl) (by kernel_rfl) (by kernel_rfl) (fun _ _ _ h => h) (.inl ⟨by rfl, ?_⟩) (by assumption) ?_
    rotate_left 1
    · intro w0 hSw
      go_simp <;> with_reducible rfl
    try simp only [Act.put, List.getElem_toArray, List.getElem_cons_zero, List.getElem_cons_succ, List.setIfInBounds_toArray, List.set_cons_zero, List.set_cons_succ]
    refine wpAnyH_take (i := 4) (v := ?_) rfl (by kernel_rfl) (by kernel_rfl) (by kernel_rfl) (fun _ _ _ h => h) (.inl ⟨by rfl, ?_⟩) (by assumption) ?_
    rotate_left 1
    · intro w0 hSw
      obtain ⟨z0, z1, z2, z3, z4, z5, z6, z7, z8⟩ := hSw
      go_simp <;> with_reducible rfl
    try simp only [Act.put, List.getElem_toArray, List.getElem_cons_zero, List.getElem_cons_succ, List.setIfInBounds_toArray, List.set_cons_zero, List.set_cons_succ]
    refine wpAnyH_take (i := 6) (v := ?_) rfl (by kernel_rfl) (by kernel_rfl) (by kernel_rfl) (fun _ _ _ h => h) (.inl ⟨by rfl, ?_⟩) (by assumption) ?_
    rotate_left 1
    · intro w0 hSw
      go_simp <;> with_reducible rfl
    try simp only [Act.put, List.getElem_toArray, List.getElem_cons_zero, List.getElem_cons_succ, List.setIfInBounds_toArray, List.set_cons_zero, List.set_cons_succ]
    refine wpAnyH_take (i := 7) (v := ?_) rfl (by kernel_rfl) (by kernel_rfl) (by kernel_rfl) (fun _ _ _ h => h) (.inl ⟨by rfl, ?_⟩) (by assumption) ?_
    rotate_left 1
    · intro w0 hSw
      obtain ⟨z0, z1, z2, z3, z4, z5, z6, z7, z8⟩ := hSw
      go_simp <;> with_reducible rfl
    try simp only [Act.put, List.getElem_toArray, List.getElem_cons_zero, List.getElem_cons_succ, List.setIfInBounds_toArray, List.set_cons_zero, List.set_cons_succ]
    refine wpAnyH_take (i := 9) (v := ?_) rfl (by kernel_rfl) (by kernel_rfl) (by kernel_rfl) (fun _ _ _ h => h) (.inl ⟨by rfl, ?_⟩) (by assumption) ?_
    rotate_left 1
    · intro w0 hSw
      go_simp <;> with_reducible rfl
    try simp only [Act.put, List.getElem_toArray, List.getElem_cons_zero, List.getElem_cons_succ, List.setIfInBounds_toArray, List.set_cons_zero, List.set_cons_succ]
    refine wpAnyH_take (i := 10) (v := ?_) rfl (by kernel_rfl) (by kernel_rfl) (by kernel_rfl) (fun _ _ _ h => h) (.inl ⟨by rfl, ?_⟩) (by assumption) ?_
    rotate_left 1
    · intro w0 hSw
      obtain ⟨z0, z1, z2, z3, z4, z5, z6, z7, z8⟩ := hSw
      go_simp <;> with_reducible rfl
    try simp only [Act.put, List.getElem_toArray, List.getElem_cons_zero, List.getElem_cons_succ, List.setIfInBounds_toArray, List.set_cons_zero, List.set_cons_succ]
    refine wpAnyH_take (i := 12) (v := ?_) rfl (by kernel_rfl) (by kernel_rfl) (by kernel_rfl) (fun _ _ _ h => h) (.inl ⟨by rfl, ?_⟩) (by assumption) ?_
    rotate_left 1
    · intro w0 hSw
      go_simp <;> with_reducible rfl
    try simp only [Act.put, List.getElem_toArray, List.getElem_cons_zero, List.getElem_cons_succ, List.setIfInBounds_toArray, List.set_cons_zero, List.set_cons_succ]
    refine wpAnyH_take (i := 13) (v := ?_) rfl (by kernel_rfl) (by kernel_rfl) (by kernel_rfl) (fun _ _ _ h => h) (.inl ⟨by rfl, ?_⟩) (by assumption) ?_
    rotate_left 1
    · intro w0 hSw
      obtain ⟨z0, z1, z2, z3, z4, z5, z6, z7, z8⟩ := hSw
      go_simp <;> with_reducible rfl
    try simp only [Act.put, List.getElem_toArray, List.getElem_cons_zero, List.getElem_cons_succ, List.setIfInBounds_toArray, List.set_cons_zero, List.set_cons_succ]
    refine wpAnyH_take (i := 17) (v := ?_) rfl (by kernel_rfl) (by kernel_rfl) (by kernel_rfl) (fun _ _ _ h => h) (.inl ⟨by rfl, ?_⟩) (by assumption) ?_
    rotate_left 1
    · intro w0 hSw
      go_simp <;> with_reducible rfl
    try simp only [Act.put, List.getElem_toArray, List.getElem_cons_zero, List.getElem_cons_succ, List.setIfInBounds_toArray, List.set_cons_zero, List.set_cons_succ]
    refine wpAnyH_take (i := 18) (v := ?_) rfl (by kernel_rfl) (by kernel_rfl) (by kernel_rfl) (fun _ _ _ h => h) (.inl ⟨by rfl, ?_⟩) (by assumption) ?_
    rotate_left 1
    · intro w0 hSw
      obtain ⟨z0, z1, z2, z3, z4, z5, z6, z7, z8⟩ := hSw
      go_simp <;> with_reducible rfl
    try simp only [Act.put, List.getElem_toArray, List.getElem_cons_zero, List.getElem_cons_succ, List.setIfInBounds_toArray, List.set_cons_zero, List.set_cons_succ]
    refine wpAnyH_take (i := 20) (v := ?_) rfl (by kernel_rfl) (by kernel_rfl) (by kernel_rfl) (fun _ _ _ h => h) (.inl ⟨by rfl, ?_⟩) (by assumption) ?_
    rotate_left 1
    · intro w0 hSw
      go_simp <;> with_reducible rfl
    try simp only [Act.put, List.getElem_toArray, List.getElem_cons_zero, List.getElem_cons_succ, List.setIfInBounds_toArray, List.set_cons_zero, List.set_cons_succ]
    refine wpAnyH_take (i := 21) (v := ?_) rfl (by kernel_rfl) (by kernel_rfl) (by kernel_rfl) (fun _ _ _ h => h) (.inl ⟨by rfl, ?_⟩) (by assumption) ?_
    rotate_left 1
    · intro w0 hSw
      obtain ⟨z0, z1, z2, z3, z4, z5, z6, z7, z8⟩ := hSw
      go_simp <;> with_reducible rfl
    try simp only [Act.put, List.getElem_toArray, List.getElem_cons_zero, List.getElem_cons_succ, List.setIfInBounds_toArray, List.set_cons_zero, List.set_cons_succ]
    refine wpAnyH_take (i := 23) (v := ?_) rfl (by kernel_rfl) (by kernel_rfl) (by kernel_rfl) (fun _ _ _ h => h) (.inl ⟨by rfl, ?_⟩) (by assumption) ?_
    rotate_left 1
    · intro w0 hSw
      go_simp <;> with_reducible rfl
    try simp only [Act.put, List.getElem_toArray, List.getElem_cons_zero, List.getElem_cons_succ, List.setIfInBounds_toArray, List.set_cons_zero, List.set_cons_succ]
    refine wpAnyH_take (i := 24) (v := ?_) rfl (by kernel_rfl) (by kernel_rfl) (by kernel_rfl) (fun _ _ _ h => h) (.inl ⟨by rfl, ?_⟩) (by assumption) ?_
    rotate_left 1
    · intro w0 hSw
      obtain ⟨z0, z1, z2, z3, z4, z5, z6, z7, z8⟩ := hSw
      go_simp <;> with_reducible rfl
    try simp only [Act.put, List.getElem_toArray, List.getElem_cons_zero, List.getElem_cons_succ, List.setIfInBounds_toArray, List.set_cons_zero, List.set_cons_succ]
    refine wpAnyH_take (i := 28) (v := ?_) rfl (by kernel_rfl) (by kernel_rfl) (by kernel_rfl) (fun _ _ _ h => h) (.inl ⟨by rfl, ?_⟩) (by assumption) ?_
    rotate_left 1
    · intro w0 hSw
      go_simp <;> with_reducible rfl
    try simp only [Act.put, List.getElem_toArray, List.getElem_cons_zero, List.getElem_cons_succ, List.setIfInBounds_toArray, List.set_cons_zero, List.set_cons_succ]
    refine wpAnyH_take (i := 29) (v := ?_) rfl (by kernel_rfl) (by kernel_rfl) (by kernel_rfl) (fun _ _ _ h => h) (.inl ⟨by rfl, ?_⟩) (by assumption) ?_
    rotate_left 1
    · intro w0 hSw
      obtain ⟨z0, z1, z2, z3, z4, z5, z6, z7, z8⟩ := hSw
      go_simp <;> with_reducible rfl
    try simp only [Act.put, List.getElem_toArray, List.getElem_cons_zero, List.getElem_cons_succ, List.setIfInBounds_toArray, List.set_cons_zero, List.set_cons_succ]
    refine wpAnyH_ready (rs := [2]) (by kernel_rfl) (by simp) ?_
    refine AllReadyH.cons rfl (fun K hK => ?_) AllReadyH.nil
    go_simp
    go_at_call 71
    refine (HN.out _).mono ?_
    rintro z w5 ⟨rfl, hb5⟩
    have b5 : Below w4.heap.size w4 w5 := b4.trans (hb5.mono b4.size)
    clear hb5
    refine hK.out _ _ (HS.out _ b5) (fun hHeld => ?_)
    clear hK K
    try simp only [Act.put, List.getElem_toArray, List.getElem_cons_zero, List.getElem_cons_succ, List.setIfInBounds_toArray, List.set_cons_zero, List.set_cons_succ]
    refine wpAnyH_ready (rs := [5]) (by kernel_rfl) (by simp) ?_
    refine AllReadyH.cons rfl (fun K hK => ?_) AllReadyH.nil
    go_simp
    go_at_call 71
    refine (HM.out _).mono ?_
    rintro z w6 ⟨rfl, hb6⟩
    have b6 : Below w4.heap.size w4 w6 := b5.trans (hb6.mono b5.size)
    clear hb6
    refine hK.out _ _ (HS.out _ b6) (fun hHeld => ?_)
    clear hK K
    try simp only [Act.put, List.getElem_toArray, List.getElem_cons_zero, List.getElem_cons_succ, List.setIfInBounds_toArray, List.set_cons_zero, List.set_cons_succ]
    refine wpAnyH_ready (rs := [8]) (by kernel_rfl) (by simp) ?_
    refine AllReadyH.cons rfl (fun K hK => ?_) AllReadyH.nil
    go_simp
    go_at_call 72
    refine (text_any a _).mono ?_
    rintro z w7 ⟨rfl, hb7⟩
    have b7 : Below w4.heap.size w4 w7 := b6.trans (hb7.mono b6.size)
    clear hb7
    refine hK.out _ _ (HS.out _ b7) (fun hHeld => ?_)
    clear hK K
    try simp only [Act.put, List.getElem_toArray, List.getElem_cons_zero, List.getElem_cons_succ, List.setIfInBounds_toArray, List.set_cons_zero, List.set_cons_succ]
    refine wpAnyH_ready (rs := [11]) (by kernel_rfl) (by simp) ?_
    refine AllReadyH.cons rfl (fun K hK => ?_) AllReadyH.nil
    go_simp
    go_at_call 72
    refine (text_any b _).mono ?_
    rintro z w8 ⟨rfl, hb8⟩
    have b8 : Below w4.heap.size w4 w8 := b7.trans (hb8.mono b7.size)
    clear hb8
    refine hK.out _ _ (HS.out _ b8) (fun hHeld => ?_)
    clear hK K
    try simp only [Act.put, List.getElem_toArray, List.getElem_cons_zero, List.getElem_cons_succ, List.setIfInBounds_toArray, List.set_cons_zero, List.set_cons_succ]
    refine wpAnyH_ready (rs := [14]) (by kernel_rfl) (by simp) ?_
    refine AllReadyH.cons rfl (fun K hK => ?_) AllReadyH.nil
    go_simp
    go_at_call 72
    refine (text_any c _).mono ?_
    rintro z w9 ⟨rfl, hb9⟩
    have b9 : Below w4.heap.size w4 w9 := b8.trans (hb9.mono b8.size)
    clear hb9
    refine hK.out _ _ (HS.out _ b9) (fun hHeld => ?_)
    clear hK K
    try simp only [Act.put, List.getElem_toArray, List.getElem_cons_zero, List.getElem_cons_succ, List.setIfInBounds_toArray, List.set_cons_zero, List.set_cons_succ]
    refine wpAnyH_ready (rs := [15]) (by kernel_rfl) (by simp) ?_
    refine AllReadyH.cons rfl (fun K hK => ?_) AllReadyH.nil
    go_simp
    have hal : ∃ W, w9.alloc (.cells #[.bool false, .string ⟨(num n).toArray⟩, .slice none 0 0, .bool false, .string ⟨(num m).toArray⟩, .slice none 0 0, .bool false, .string a, .slice none 0 0, .bool false, .string b, .slice none 0 0, .bool false, .string c, .slice none 0 0] 80) = W := ⟨_, rfl⟩
    obtain ⟨w10, hal⟩ := hal
    have hb10 : Below w9.heap.size w9 w10 := by rw [← hal]; exact (Below.refl _ _).alloc (Nat.le_refl _) _
    have b10 : Below w4.heap.size w4 w10 := b9.trans (hb10.mono b9.size)
    have HA_10 := Lib.hid (show RIn w10 w4.heap.size (.slice (some ⟨w9.heap.size, 0, none⟩) 5 5) [itN n, itN m, itT a, itT b, itT c] from by
      rw [← hal]
      refine reads_new w9 w4.heap.size 5 [(itN n, .slice none 0 0), (itN m, .slice none 0 0), (itT a, .slice none 0 0), (itT b, .slice none 0 0), (itT c, .slice none 0 0)] rfl b9.size (fun q hq => ?_)
      simp only [List.mem_cons, List.not_mem_nil, or_false] at hq
      rcases hq with rfl | rfl | rfl | rfl | rfl
      · exact RIn.nil _ _
      · exact RIn.nil _ _
      · exact RIn.nil _ _
      · exact RIn.nil _ _
      · exact RIn.nil _ _)
    rw [hal]
    clear hal hb10 
    refine hK.out _ _ (HS.out _ b10) (fun hHeld => ?_)
    clear hK K
    try simp only [Act.put, List.getElem_toArray, List.getElem_cons_zero, List.getElem_cons_succ, List.setIfInBounds_toArray, List.set_cons_zero, List.set_cons_succ]
    refine wpAnyH_ready (rs := [16]) (by kernel_rfl) (by simp) ?_
    refine AllReadyH.cons rfl (fun K hK => ?_) AllReadyH.nil
    go_simp
    go_at_call 62
    refine (list_any _ _ _ _).mono ?_
    rintro z w11 ⟨rfl, hb11⟩
    have b11 : Below w4.heap.size w4 w11 := b10.trans (hb11.mono b10.size)
    have HA_11 := Lib.hid (HA_10.out.below hb11)
    clear HA_10
    clear hb11
    refine hK.out _ _ (HS.out _ b11) (fun hHeld => ?_)
    clear hK K
    try simp only [Act.put, List.getElem_toArray, List.getElem_cons_zero, List.getElem_cons_succ, List.setIfInBounds_toArray, List.set_cons_zero, List.set_cons_succ]
    refine wpAnyH_ready (rs := [19]) (by kernel_rfl) (by simp) ?_
    refine AllReadyH.cons rfl (fun K hK => ?_) AllReadyH.nil
    go_simp
    go_at_call 72
    refine (text_any d _).mono ?_
    rintro z w12 ⟨rfl, hb12⟩
    have b12 : Below w4.heap.size w4 w12 := b11.trans (hb12.mono b11.size)
    have HA_12 := Lib.hid (HA_11.out.below hb12)
    clear HA_11
    clear hb12
    refine hK.out _ _ (HS.out _ b12) (fun hHeld => ?_)
    clear hK K
    try simp only [Act.put, List.getElem_toArray, List.getElem_cons_zero, List.getElem_cons_succ, List.setIfInBounds_toArray, List.set_cons_zero, List.set_cons_succ]
    refine wpAnyH_ready (rs := [22]) (by kernel_rfl) (by simp) ?_
    refine AllReadyH.cons rfl (fun K hK => ?_) AllReadyH.nil
    go_simp
    go_at_call 72
    refine (text_any e _).mono ?_
    rintro z w13 ⟨rfl, hb13⟩
    have b13 : Below w4.heap.size w4 w13 := b12.trans (hb13.mono b12.size)
    have HA_13 := Lib.hid (HA_12.out.below hb13)
    clear HA_12
    clear hb13
    refine hK.out _ _ (HS.out _ b13) (fun hHeld => ?_)
    clear hK K
    try simp only [Act.put, List.getElem_toArray, List.getElem_cons_zero, List.getElem_cons_succ, List.setIfInBounds_toArray, List.set_cons_zero, List.set_cons_succ]
    refine wpAnyH_ready (rs := [25]) (by kernel_rfl) (by simp) ?_
    refine AllReadyH.cons rfl (fun K hK => ?_) AllReadyH.nil
    go_simp
    go_at_call 71
    refine (HK.out _).mono ?_
    rintro z w14 ⟨rfl, hb14⟩
    have b14 : Below w4.heap.size w4 w14 := b13.trans (hb14.mono b13.size)
    have HA_14 := Lib.hid (HA_13.out.below hb14)
    clear HA_13
    clear hb14
    refine hK.out _ _ (HS.out _ b14) (fun hHeld => ?_)
    clear hK K
    try simp only [Act.put, List.getElem_toArray, List.getElem_cons_zero, List.getElem_cons_succ, List.setIfInBounds_toArray, List.set_cons_zero, List.set_cons_succ]
    refine wpAnyH_ready (rs := [26]) (by kernel_rfl) (by simp) ?_
    refine AllReadyH.cons rfl (fun K hK => ?_) AllReadyH.nil
    go_simp
    have hal : ∃ W, w14.alloc (.cells #[.bool false, .string d, .slice none 0 0, .bool false, .string e, .slice none 0 0, .bool false, .string ⟨(num k).toArray⟩, .slice none 0 0] 80) = W := ⟨_, rfl⟩
    obtain ⟨w15, hal⟩ := hal
    have hb15 : Below w14.heap.size w14 w15 := by rw [← hal]; exact (Below.refl _ _).alloc (Nat.le_refl _) _
    have b15 : Below w4.heap.size w4 w15 := b14.trans (hb15.mono b14.size)
    have HX_15 := Lib.hid (show RIn w15 w4.heap.size (.slice (some ⟨w14.heap.size, 0, none⟩) 3 3) [itT d, itT e, itN k] from by
      rw [← hal]
      refine reads_new w14 w4.heap.size 3 [(itT d, .slice none 0 0), (itT e, .slice none 0 0), (itN k, .slice none 0 0)] rfl b14.size (fun q hq => ?_)
      simp only [List.mem_cons, List.not_mem_nil, or_false] at hq
      rcases hq with rfl | rfl | rfl
      · exact RIn.nil _ _
      · exact RIn.nil _ _
      · exact RIn.nil _ _)
    have HA_15 := Lib.hid (HA_14.out.below hb15)
    rw [hal]
    clear hal hb15 HA_14
    refine hK.out _ _ (HS.out _ b15) (fun hHeld => ?_)
    clear hK K
    try simp only [Act.put, List.getElem_toArray, List.getElem_cons_zero, List.getElem_cons_succ, List.setIfInBounds_toArray, List.set_cons_zero, List.set_cons_succ]
    refine wpAnyH_ready (rs := [27]) (by kernel_rfl) (by simp) ?_
    refine AllReadyH.cons rfl (fun K hK => ?_) AllReadyH.nil
    go_simp
    go_at_call 62
    refine (list_any _ _ _ _).mono ?_
    rintro z w16 ⟨rfl, hb16⟩
    have b16 : Below w4.heap.size w4 w16 := b15.trans (hb16.mono b15.size)
    have HA_16 := Lib.hid (HA_15.out.below hb16)
    have HX_16 := Lib.hid (HX_15.out.below hb16)
    clear HA_15 HX_15
    clear hb16
    refine hK.out _ _ (HS.out _ b16) (fun hHeld => ?_)
    clear hK K
    try simp only [Act.put, List.getElem_toArray, List.getElem_cons_zero, List.getElem_cons_succ, List.setIfInBounds_toArray, List.set_cons_zero, List.set_cons_succ]
    refine wpAnyH_ready (rs := [30]) (by kernel_rfl) (by simp) ?_
    refine AllReadyH.cons rfl (fun K hK => ?_) AllReadyH.nil
    go_simp
    go_at_call 65
    refine (HT.out _ (HV.out.below (HB4.out.trans (b16.mono HB4.out.size)))).mono ?_
    rintro z w17 ⟨pt, nt, ct, rfl, hrt, hb17⟩
    have b17 : Below w4.heap.size w4 w17 := b16.trans (hb17.mono b16.size)
    have HA_17 := Lib.hid (HA_16.out.below hb17)
    have HX_17 := Lib.hid (HX_16.out.below hb17)
    clear HA_16 HX_16
    have HT2_17 := Lib.hid (RIn.mono hrt b16.size)
    clear hrt
    clear hb17
    refine hK.out _ _ (HS.out _ b17) (fun hHeld => ?_)
    clear hK K
    try simp only [Act.put, List.getElem_toArray, List.getElem_cons_zero, List.getElem_cons_succ, List.setIfInBounds_toArray, List.set_cons_zero, List.set_cons_succ]
    refine wpAnyH_ready (rs := [31]) (by kernel_rfl) (by simp) ?_
    refine AllReadyH.cons rfl (fun K hK => ?_) AllReadyH.nil
    go_simp
    have hal : ∃ W, w17.alloc (.cells #[.bool true, .string ⟨#[]⟩, .slice (some ⟨w9.heap.size, 0, none⟩) 5 5, .bool true, .string ⟨#[]⟩, .slice (some ⟨w14.heap.size, 0, none⟩) 3 3, .bool true, .string ⟨#[]⟩, .slice pt nt ct] 80) = W := ⟨_, rfl⟩
    obtain ⟨w18, hal⟩ := hal
    have hb18 : Below w17.heap.size w17 w18 := by rw [← hal]; exact (Below.refl _ _).alloc (Nat.le_refl _) _
    have b18 : Below w4.heap.size w4 w18 := b17.trans (hb18.mono b17.size)
    have HL_18 := Lib.hid (show RIn w18 w4.heap.size (.slice (some ⟨w17.heap.size, 0, none⟩) 3 3) [itL [itN n, itN m, itT a, itT b, itT c], itL [itT d, itT e, itN k], itTs br] from by
      rw [← hal]
      refine reads_new w17 w4.heap.size 3 [(itL [itN n, itN m, itT a, itT b, itT c], .slice (some ⟨w9.heap.size, 0, none⟩) 5 5), (itL [itT d, itT e, itN k], .slice (some ⟨w14.heap.size, 0, none⟩) 3 3), (itTs br, .slice pt nt ct)] rfl b17.size (fun q hq => ?_)
      simp only [List.mem_cons, List.not_mem_nil, or_false] at hq
      rcases hq with rfl | rfl | rfl
      · exact HA_17.out
      · exact HX_17.out
      · exact HT2_17.out)
    rw [hal]
    clear hal hb18 HA_17 HX_17 HT2_17
    refine hK.out _ _ (HS.out _ b18) (fun hHeld => ?_)
    clear hK K
    try simp only [Act.put, List.getElem_toArray, List.getElem_cons_zero, List.getElem_cons_succ, List.setIfInBounds_toArray, List.set_cons_zero, List.set_cons_succ]
    refine wpAnyH_ready (rs := [32]) (by kernel_rfl) (by simp) ?_
    refine AllReadyH.cons rfl (fun K hK => ?_) AllReadyH.nil
    go_simp
    go_at_call 62
    refine (list_any _ _ _ _).mono ?_
    rintro z w19 ⟨rfl, hb19⟩
    have b19 : Below w4.heap.size w4 w19 := b18.trans (hb19.mono b18.size)
    have HL_19 := Lib.hid (HL_18.out.below hb19)
    clear HL_18
    clear hb19
    refine hK.out _ _ (HS.out _ b19) (fun hHeld => ?_)
    clear hK K
    try simp only [Act.put, List.getElem_toArray, List.getElem_cons_zero, List.getElem_cons_succ, List.setIfInBounds_toArray, List.set_cons_zero, List.set_cons_succ]
    obtain ⟨⟨y0, y1, y2⟩, yf⟩ := HZ.out
    have p0 := (b19.cell (p := ⟨w.heap.size + 1, 0, none⟩) (by dsimp only; omega)).trans y0
    have p1 := (b19.cell (p := ⟨w.heap.size + 1, 1, none⟩) (by dsimp only; omega)).trans y1
    have p2 := (b19.cell (p := ⟨w.heap.size + 1, 2, none⟩) (by dsimp only; omega)).trans y2
    have f0 := (b19.frozen (p := ⟨w.heap.size + 1, 0, none⟩) (by dsimp only; omega)).trans (yf 0)
    have f1 := (b19.frozen (p := ⟨w.heap.size + 1, 1, none⟩) (by dsimp only; omega)).trans (yf 1)
    have f2 := (b19.frozen (p := ⟨w.heap.size + 1, 2, none⟩) (by dsimp only; omega)).trans (yf 2)
    clear y0 y1 y2 yf
    refine wpAnyH_ready (rs := [33]) (by kernel_rfl) (by simp) ?_
    refine AllReadyH.cons rfl (fun K hK => ?_) AllReadyH.nil
    go_simp
    refine hK.out _ _ (⟨three_other hHeld.1 (by omega) _ _ _, three_other hHeld.2.1 (by omega) _ _ _, three_other hHeld.2.2.1 (by omega) _ _ _, three_other hHeld.2.2.2.1 (by omega) _ _ _, three_other hHeld.2.2.2.2.1 (by omega) _ _ _, three_other hHeld.2.2.2.2.2.1 (by omega) _ _ _, three_other hHeld.2.2.2.2.2.2.1 (by omega) _ _ _, three_other hHeld.2.2.2.2.2.2.2.1 (by omega) _ _ _, three_other hHeld.2.2.2.2.2.2.2.2 (by omega) _ _ _⟩) (fun hHeld => ?_)
    clear hK K
    try simp only [Act.put, List.getElem_toArray, List.getElem_cons_zero, List.getElem_cons_succ, List.setIfInBounds_toArray, List.set_cons_zero, List.set_cons_succ]
    refine wpAnyH_done (by kernel_rfl) ?_ 0
    go_wp2_with fail
    refine bodyPost_ret (results_item0 rfl _ _ (w.heap.size + 1) (.bool true) (.string ⟨#[]⟩) (.slice (some ⟨w17.heap.size, 0, none⟩) 3 3) rfl ?_ ?_ ?_) rfl ?_
    · simp [go_sem, p0]
    · simp [go_sem, p1]
    · simp [go_sem, p2]
    have hb8 : Below w.heap.size w w19 := HB4.out.trans (b19.mono HB4.out.size)
    refine ⟨_, _, _, rfl, ?_, ((hb8.setCell (p := ⟨w.heap.size + 1, 0, none⟩) (Nat.le_succ _) _).setCell (p := ⟨w.heap.size + 1, 1, none⟩) (Nat.le_succ _) _).setCell (p := ⟨w.heap.size + 1, 2, none⟩) (Nat.le_succ _) _⟩
    exact RIn.mono (((HL_19.out.store (g := w.heap.size + 1) (by omega) _).store (g := w.heap.size + 1) (by omega) _).store (g := w.heap.size + 1) (by omega) _) (by omega)
end Go.Proofs.YtfbopnebfdkhdaaDoor
