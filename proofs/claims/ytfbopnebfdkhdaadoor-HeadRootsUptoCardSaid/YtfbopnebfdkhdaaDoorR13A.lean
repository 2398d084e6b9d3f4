/- Contracts of pharosref13.chunks, Sums. -/
import Derived.Test.YtfbopnebfdkhdaaDoorRf8C
import Derived.Test.YtfbopnebfdkhdaaDoorHapP
namespace Go.Proofs.YtfbopnebfdkhdaaDoor
open Go.RowKit Go.Shelf Go.Lib
attribute [local go_sem] Oper.semAt_some

theorem strs_new (w : World) (xs : List ByteArray) (n : Nat) (h : xs.length = n) : Strs (w.alloc (.cells (xs.map Value.string).toArray 9)) (.slice (some ⟨w.heap.size, 0, none⟩) n n) xs := by
  subst h
  refine ⟨_, _, rfl, Nat.le_refl _, .inr ⟨w.heap.size, 0, rfl, by simp, fun j x hx => ?_⟩⟩
  rw [World.cell?_alloc_mark]
  simp [hx]
set_option maxRecDepth 100000 in
set_option maxHeartbeats 3200000 in
theorem rchunks_any (n m : Nat) (a b c : ByteArray) (w : World) (hn : n < 18446744073709551616) (hm : m < 18446744073709551616) :
    Calls Tryd.prog 38 #[.agg #[.int .u64 n, .int .u64 m, .string a, .string b, .string c]] w fun e w' => ∃ v', e = .returned v' ∧ Strs w' v' (hdrChunks n m a b c) ∧ Below w.heap.size w w' := by
  have hN := fun W => rnumber_any n W hn
  have hM := fun W => rnumber_any m W hm
  unfold hdrChunks
  obtain ⟨x, hx⟩ : ∃ x : ByteArray, ⟨(numL n).toArray⟩ = x := ⟨_, rfl⟩
  obtain ⟨y, hy⟩ : ∃ y : ByteArray, ⟨(numL m).toArray⟩ = y := ⟨_, rfl⟩
  rw [hx] at hN ⊢
  rw [hy] at hM ⊢
  have HN := Lib.hid hN
  have HM := Lib.hid hM
  clear hN hM hx hy hn hm
  go_enter Tryd.func38, Tryd.ntmps38
  go_wp2_with fail
  obtain ⟨w3, hw3⟩ : ∃ w3, w.alloc (.cells #[.int .u64 n, .int .u64 m, .string a, .string b, .string c] 24) = w3 := ⟨_, rfl⟩
  have HB3 := Lib.hid ((Below.refl w.heap.size w).alloc (Nat.le_refl _) (.cells #[.int .u64 n, .int .u64 m, .string a, .string b, .string c] 24))
  have hc0 : ∀ j u, [Value.int .u64 n, .int .u64 m, .string a, .string b, .string c][j]? = some u → (w.alloc (.cells #[.int .u64 n, .int .u64 m, .string a, .string b, .string c] 24)).cell? ⟨w.heap.size, j, none⟩ = some u := fun j u h => by
    rw [World.cell?_alloc_mark]; simpa using h
  have hk : w.heap.size < (w.alloc (.cells #[.int .u64 n, .int .u64 m, .string a, .string b, .string c] 24)).heap.size := by simp
  rw [hw3] at HB3 hc0 hk ⊢
  have HS := Lib.hid (fun W' (hb : Below w3.heap.size w3 W') => (show W'.cell? ⟨w.heap.size, 0, none⟩ = some (.int .u64 n) ∧ W'.cell? ⟨w.heap.size, 1, none⟩ = some (.int .u64 m) ∧ W'.cell? ⟨w.heap.size, 2, none⟩ = some (.string a) ∧ W'.cell? ⟨w.heap.size, 3, none⟩ = some (.string b) ∧ W'.cell? ⟨w.heap.size, 4, none⟩ = some (.string c) from
    ⟨(hb.cell (p := ⟨w.heap.size, 0, none⟩) hk).trans (hc0 0 _ rfl), (hb.cell (p := ⟨w.heap.size, 1, none⟩) hk).trans (hc0 1 _ rfl), (hb.cell (p := ⟨w.heap.size, 2, none⟩) hk).trans (hc0 2 _ rfl), (hb.cell (p := ⟨w.heap.size, 3, none⟩) hk).trans (hc0 3 _ rfl), (hb.cell (p := ⟨w.heap.size, 4, none⟩) hk).trans (hc0 4 _ rfl)⟩))
  clear hw3 hc0 hk
  have b3 : Below w3.heap.size w3 w3.drew := (Below.refl _ _).drew
  refine wp_region_held_drew (S := (fun W => W.cell? ⟨w.heap.size, 0, none⟩ = some (.int .u64 n) ∧ W.cell? ⟨w.heap.size, 1, none⟩ = some (.int .u64 m) ∧ W.cell? ⟨w.heap.size, 2, none⟩ = some (.string a) ∧ W.cell? ⟨w.heap.size, 3, none⟩ = some (.string b) ∧ W.cell? ⟨w.heap.size, 4, none⟩ = some (.string c))) (by kernel_rfl) (HS.out _ b3) (fun hHeld => ?_)
  refine wpAnyH_take (i := 0) (v := ?_) rfl (by kernel_rfl) (by kernel_rfl) (by kernel_rfl) (fun _ _ _ h => h) (.inl ⟨by rfl, ?_⟩) (by assumption) ?_
  rotate_left 1
  · intro w0 hSw
    go_simp <;> with_reducible rfl
  try simp only [Act.put, List.getElem_toArray, List.getElem_cons_zero, List.setIfInBounds_toArray, List.set_cons_zero, List.set_cons_succ]
  refine wpAnyH_take (i := 1) (v := ?_) rfl (by kernel_rfl) (by kernel_rfl) (by kernel_rfl) (fun _ _ _ h => h) (.inl ⟨by rfl, ?_⟩) (by assumption) ?_
  rotate_left 1
  · intro w0 hSw
    obtain ⟨z0, z1, z2, z3, z4⟩ := hSw
    go_simp <;> with_reducible rfl
  try simp only [Act.put, List.getElem_toArray, List.getElem_cons_zero, List.getElem_cons_succ, List.setIfInBounds_toArray, List.set_cons_zero, List.set_cons_succ]
  refine wpAnyH_take (i := 3) (v := ?_) rfl (by kernel_rfl) (by kernel_rfl) (by kernel_rfl) (fun _ _ _ h => h) (.inl ⟨by rfl, ?_⟩) (by assumption) ?_
  rotate_left 1
  · intro w0 hSw
    go_simp <;> with_reducible rfl
  try simp only [Act.put, List.getElem_toArray, List.getElem_cons_zero, List.getElem_cons_succ, List.setIfInBounds_toArray, List.set_cons_zero, List.set_cons_succ]
  refine wpAnyH_take (i := 4) (v := ?_) rfl (by kernel_rfl) (by kernel_rfl) (by kernel_rfl) (fun _ _ _ h => h) (.inl ⟨by rfl, ?_⟩) (by assumption) ?_
  rotate_left 1
  · intro w0 hSw
    obtain ⟨z0, z1, z2, z3, z4⟩ := hSw
    go_simp <;> with_reducible rfl
  try simp only [Act.put, List.getElem_toArray, List.getElem_cons_zero, List.getElem_cons_succ, List.setIfInBounds_toArray, List.set_cons_zero, List.set_cons_succ]
  refine wpAnyH_take (i := 6) (v := ?_) rfl (by kernel_rfl) (by kernel_rfl) (by kernel_rfl) (fun _ _ _ h => h) (.inl ⟨by rfl, ?_⟩) (by assumption) ?_
  rotate_left 1
  · intro w0 hSw
    go_simp <;> with_reducible rfl
  try simp only [Act.put, List.getElem_toArray, List.getElem_cons_zero, List.getElem_cons_succ, List.setIfInBounds_toArray, List.set_cons_zero, List.set_cons_succ]
  refine wpAnyH_take (i := 7) (v := ?_) rfl (by kernel_rfl) (by kernel_rfl) (by kernel_rfl) (fun _ _ _ h => h) (.inl ⟨by rfl, ?_⟩) (by assumption) ?_
  rotate_left 1
  · intro w0 hSw
    obtain ⟨z0, z1, z2, z3, z4⟩ := hSw
    go_simp <;> with_reducible rfl
  try simp only [Act.put, List.getElem_toArray, List.getElem_cons_zero, List.getElem_cons_succ, List.setIfInBounds_toArray, List.set_cons_zero, List.set_cons_succ]
  refine wpAnyH_take (i := 8) (v := ?_) rfl (by kernel_rfl) (by kernel_rfl) (by kernel_rfl) (fun _ _ _ h => h) (.inl ⟨by rfl, ?_⟩) (by assumption) ?_
  rotate_left 1
  · intro w0 hSw
    go_simp <;> with_reducible rfl
  try simp only [Act.put, List.getElem_toArray, List.getElem_cons_zero, List.getElem_cons_succ, List.setIfInBounds_toArray, List.set_cons_zero, List.set_cons_succ]
  refine wpAnyH_take (i := 9) (v := ?_) rfl (by kernel_rfl) (by kernel_rfl) (by kernel_rfl) (fun _ _ _ h => h) (.inl ⟨by rfl, ?_⟩) (by assumption) ?_
  rotate_left 1
  · intro w0 hSw
    obtain ⟨z0, z1, z2, z3, z4⟩ := hSw
    go_simp <;> with_reducible rfl
  try simp only [Act.put, List.getElem_toArray, List.getElem_cons_zero, List.getElem_cons_succ, List.setIfInBounds_toArray, List.set_cons_zero, List.set_cons_succ]
  refine wpAnyH_take (i := 10) (v := ?_) rfl (by kernel_rfl) (by kernel_rfl) (by kernel_rfl) (fun _ _ _ h => h) (.inl ⟨by rfl, ?_⟩) (by assumption) ?_
  rotate_left 1
  · intro w0 hSw
    go_simp <;> with_reducible rfl
  try simp only [Act.put, List.getElem_toArray, List.getElem_cons_zero, List.getElem_cons_succ, List.setIfInBounds_toArray, List.set_cons_zero, List.set_cons_succ]
  refine wpAnyH_take (i := 11) (v := ?_) rfl (by kernel_rfl) (by kernel_rfl) (by kernel_rfl) (fun _ _ _ h => h) (.inl ⟨by rfl, ?_⟩) (by assumption) ?_
  rotate_left 1
  · intro w0 hSw
    obtain ⟨z0, z1, z2, z3, z4⟩ := hSw
    go_simp <;> with_reducible rfl
  try simp only [Act.put, List.getElem_toArray, List.getElem_cons_zero, List.getElem_cons_succ, List.setIfInBounds_toArray, List.set_cons_zero, List.set_cons_succ]
  refine wpAnyH_ready (rs := [2]) (by kernel_rfl) (by simp) ?_
  refine AllReadyH.cons rfl (fun K hK => ?_) AllReadyH.nil
  go_simp
  go_at_call 41
  refine (HN.out _).mono ?_
  rintro e w4 ⟨rfl, hb4⟩
  have b4 : Below w3.heap.size w3 w4 := b3.trans (hb4.mono b3.size)
  clear hb4
  refine hK.out _ _ (HS.out _ b4) (fun hHeld => ?_)
  clear hK K
  try simp only [Act.put, List.getElem_toArray, List.getElem_cons_zero, List.getElem_cons_succ, List.setIfInBounds_toArray, List.set_cons_zero, List.set_cons_succ]
  refine wpAnyH_ready (rs := [5]) (by kernel_rfl) (by simp) ?_
  refine AllReadyH.cons rfl (fun K hK => ?_) AllReadyH.nil
  go_simp
  go_at_call 41
  refine (HM.out _).mono ?_
  rintro e w5 ⟨rfl, hb5⟩
  have b5 : Below w3.heap.size w3 w5 := b4.trans (hb5.mono b4.size)
  clear hb5
  refine hK.out _ _ (HS.out _ b5) (fun hHeld => ?_)
  clear hK K
  try simp only [Act.put, List.getElem_toArray, List.getElem_cons_zero, List.getElem_cons_succ, List.setIfInBounds_toArray, List.set_cons_zero, List.set_cons_succ]
  refine wpAnyH_ready (rs := [12]) (by kernel_rfl) (by simp) ?_
  refine AllReadyH.cons rfl (fun K hK => ?_) AllReadyH.nil
  go_simp
  have b6 : Below w3.heap.size w3 (w5.alloc (.cells #[.string x, .string y, .string a, .string b, .string c] 9)) := b5.alloc b5.size _
  refine hK.out _ _ (HS.out _ b6) (fun hHeld => ?_)
  clear hK K
  try simp only [Act.put, List.getElem_toArray, List.getElem_cons_zero, List.getElem_cons_succ, List.setIfInBounds_toArray, List.set_cons_zero, List.set_cons_succ]
  refine wpAnyH_take (i := 13) (v := ?_) rfl (by kernel_rfl) (by kernel_rfl) (by kernel_rfl) (fun _ _ _ h => h) (.inl ⟨by rfl, ?_⟩) (by assumption) ?_
  rotate_left 1
  · intro w0 hSw
    go_simp <;> with_reducible rfl
  try simp only [Act.put, List.getElem_toArray, List.getElem_cons_zero, List.getElem_cons_succ, List.setIfInBounds_toArray, List.set_cons_zero, List.set_cons_succ]
  refine wpAnyH_done (by kernel_rfl) ?_ 0
  go_wp2
  go_ret
  exact ⟨_, rfl, strs_new w5 [x, y, a, b, c] 5 rfl, HB3.out.trans (b6.mono HB3.out.size)⟩
set_option maxRecDepth 100000 in
set_option maxHeartbeats 3200000 in
theorem rsums_any (n m : Nat) (a b c : ByteArray) (w : World) (hn : n < 18446744073709551616) (hm : m < 18446744073709551616) (hx : ∀ x ∈ hdrChunks n m a b c, x.size ≤ 1048576) :
    Calls Tryd.prog 13 #[.agg #[.int .u64 n, .int .u64 m, .string a, .string b, .string c]] w fun e w' => ∃ v', e = .returned v' ∧ OwnS w.heap.size w' v' (sumsUp (padB 3 (hdrChunks n m a b c)) 3) ∧ Below w.heap.size w w' := by
  have hc := fun W => rchunks_any n m a b c W hn hm
  have hs := fun v W (h : Strs W v (hdrChunks n m a b c)) => sums3_any v (hdrChunks n m a b c) W h (by simp [hdrChunks]) (by simp [hdrChunks]) hx
  have hl : (hdrChunks n m a b c).length = 5 := rfl
  obtain ⟨xs, hxs⟩ : ∃ xs, hdrChunks n m a b c = xs := ⟨_, rfl⟩
  rw [hxs] at hc hs hl ⊢
  obtain ⟨R, hR⟩ : ∃ R, sumsUp (padB 3 xs) 3 = R := ⟨_, rfl⟩
  rw [hR] at hs ⊢
  have HC := Lib.hid hc
  have HS := Lib.hid hs
  clear hc hs hxs hR hx hn hm
  go_enter Tryd.func13, Tryd.ntmps13
  have b1 : Below w.heap.size w (w.alloc (.cells #[.int .u64 n, .int .u64 m, .string a, .string b, .string c] 24)) := (Below.refl w.heap.size w).alloc (Nat.le_refl _) _
  have HB1 := Lib.hid b1
  clear b1
  go_wp2_with fail
  refine (HC.out _).mono ?_
  rintro e w2 ⟨v2, rfl, hst, hb2⟩
  have hb2' : Below w.heap.size w w2 := HB1.out.trans (hb2.mono HB1.out.size)
  obtain ⟨p2, c2, hv2, -⟩ := id hst
  rw [hl] at hv2
  have H2 := Lib.hid (HS.out v2 w2 hst)
  have HB2 := Lib.hid hb2'
  subst hv2
  clear hst hb2 hb2' HB1
  go_wp2_with fail
  refine H2.out.mono ?_
  rintro e w4 ⟨v4, rfl, ho4, hb4⟩
  have HO4 := Lib.hid (ho4.base HB2.out.size)
  have HB4 := Lib.hid (HB2.out.trans (hb4.mono HB2.out.size))
  clear ho4 hb4
  go_wp2
  go_ret
  exact ⟨_, rfl, HO4.out, HB4.out⟩
end Go.Proofs.YtfbopnebfdkhdaaDoor
