/- Contract of head.ExecRoot. -/
import Derived.Test.YtpfmdhcmhcoddaaGreatDoorHedA
namespace Go.Proofs.YtpfmdhcmhcoddaaGreatDoor
open Go.RowKit Go.Shelf Go.Lib

/-- the chunks of what a block did -/
def execChunks (a b : ByteArray) (n : Nat) : List ByteArray := [a, b, ⟨(numL n).toArray⟩]
set_option maxRecDepth 100000 in
set_option maxHeartbeats 3200000 in
theorem execRoot_any (a b : ByteArray) (n : Nat) (w : World) (hn : n < 18446744073709551616) (ha : a.size ≤ 1048576) (hb : b.size ≤ 1048576) (hK : KTab w) :
    Calls Tryz.prog 119 #[.agg #[.string a, .string b, .int .u64 n]] w fun e w' => e = .returned (rootedV (execChunks a b n) 2) ∧ Below w.heap.size w w' := by
  have hN := fun W => sszNumber_any n W hn
  have hx1 := numL_size n
  unfold execChunks
  obtain ⟨x, hx⟩ : ∃ x : ByteArray, ⟨(numL n).toArray⟩ = x := ⟨_, rfl⟩
  rw [hx] at hN hx1 ⊢
  have HN := Lib.hid hN
  have HK := Lib.hid hK
  have hX : ∀ u ∈ [a, b, x], u.size ≤ 1048576 := by
    intro u hu
    simp only [List.mem_cons, List.not_mem_nil, or_false] at hu
    rcases hu with rfl | rfl | rfl <;> omega
  have HX := Lib.hid hX
  clear hN hx hK hX hx1 hn ha hb
  go_enter Tryz.func119, Tryz.ntmps119
  go_wp2_with fail
  obtain ⟨w3, hw3⟩ : ∃ w3, w.alloc (.cells #[.string a, .string b, .int .u64 n] 38) = w3 := ⟨_, rfl⟩
  have HB3 := Lib.hid ((Below.refl w.heap.size w).alloc (Nat.le_refl _) (.cells #[.string a, .string b, .int .u64 n] 38))
  have hc0 : ∀ j u, [Value.string a, .string b, .int .u64 n][j]? = some u → (w.alloc (.cells #[.string a, .string b, .int .u64 n] 38)).cell? ⟨w.heap.size, j, none⟩ = some u := fun j u h => by
    rw [World.cell?_alloc_mark]; simpa using h
  have hk : w.heap.size < (w.alloc (.cells #[.string a, .string b, .int .u64 n] 38)).heap.size := by simp
  rw [hw3] at HB3 hc0 hk ⊢
  have HS := Lib.hid (fun W' (hb : Below w3.heap.size w3 W') => (show W'.cell? ⟨w.heap.size, 0, none⟩ = some (.string a) ∧ W'.cell? ⟨w.heap.size, 1, none⟩ = some (.string b) ∧ W'.cell? ⟨w.heap.size, 2, none⟩ = some (.int .u64 n) from
    ⟨(hb.cell (p := ⟨w.heap.size, 0, none⟩) hk).trans (hc0 0 _ rfl), (hb.cell (p := ⟨w.heap.size, 1, none⟩) hk).trans (hc0 1 _ rfl), (hb.cell (p := ⟨w.heap.size, 2, none⟩) hk).trans (hc0 2 _ rfl)⟩))
  clear hw3 hc0 hk
  have b3 : Below w3.heap.size w3 w3.drew := (Below.refl _ _).drew
  refine wp_region_held_drew (S := (fun w' => w'.cell? ⟨w.heap.size, 0, none⟩ = some (.string a) ∧ w'.cell? ⟨w.heap.size, 1, none⟩ = some (.string b) ∧ w'.cell? ⟨w.heap.size, 2, none⟩ = some (.int .u64 n))) (by kernel_rfl) (HS.out _ b3) (fun hHeld => ?_)
  refine wpAnyH_take (i := 0) (v := .pointer (some ⟨w.heap.size, 0, none⟩)) rfl (by kernel_rfl) (by kernel_rfl) (by kernel_rfl) (fun _ _ _ h => h) (.inl ⟨by rfl, ?_⟩) (by assumption) ?_
  · intro w0 hSw
    go_simp
  simp only [Act.put, List.getElem_toArray, List.getElem_cons_zero, List.setIfInBounds_toArray, List.set_cons_zero, List.set_cons_succ]
  refine wpAnyH_take (i := 1) (v := .string a) rfl (by kernel_rfl) (by kernel_rfl) (by kernel_rfl) (fun _ _ _ h => h) (.inl ⟨by rfl, ?_⟩) (by assumption) ?_
  · intro w0 hSw
    obtain ⟨z0, z1, z2⟩ := hSw
    go_simp
  simp only [Act.put, List.getElem_toArray, List.getElem_cons_zero, List.getElem_cons_succ, List.setIfInBounds_toArray, List.set_cons_zero, List.set_cons_succ]
  refine wpAnyH_take (i := 2) (v := .pointer (some ⟨w.heap.size, 1, none⟩)) rfl (by kernel_rfl) (by kernel_rfl) (by kernel_rfl) (fun _ _ _ h => h) (.inl ⟨by rfl, ?_⟩) (by assumption) ?_
  · intro w0 hSw
    go_simp
  simp only [Act.put, List.getElem_toArray, List.getElem_cons_zero, List.getElem_cons_succ, List.setIfInBounds_toArray, List.set_cons_zero, List.set_cons_succ]
  refine wpAnyH_take (i := 3) (v := .string b) rfl (by kernel_rfl) (by kernel_rfl) (by kernel_rfl) (fun _ _ _ h => h) (.inl ⟨by rfl, ?_⟩) (by assumption) ?_
  · intro w0 hSw
    obtain ⟨z0, z1, z2⟩ := hSw
    go_simp
  simp only [Act.put, List.getElem_toArray, List.getElem_cons_zero, List.getElem_cons_succ, List.setIfInBounds_toArray, List.set_cons_zero, List.set_cons_succ]
  refine wpAnyH_take (i := 4) (v := .pointer (some ⟨w.heap.size, 2, none⟩)) rfl (by kernel_rfl) (by kernel_rfl) (by kernel_rfl) (fun _ _ _ h => h) (.inl ⟨by rfl, ?_⟩) (by assumption) ?_
  · intro w0 hSw
    go_simp
  simp only [Act.put, List.getElem_toArray, List.getElem_cons_zero, List.getElem_cons_succ, List.setIfInBounds_toArray, List.set_cons_zero, List.set_cons_succ]
  refine wpAnyH_take (i := 5) (v := .int .u64 n) rfl (by kernel_rfl) (by kernel_rfl) (by kernel_rfl) (fun _ _ _ h => h) (.inl ⟨by rfl, ?_⟩) (by assumption) ?_
  · intro w0 hSw
    obtain ⟨z0, z1, z2⟩ := hSw
    go_simp
  simp only [Act.put, List.getElem_toArray, List.getElem_cons_zero, List.getElem_cons_succ, List.setIfInBounds_toArray, List.set_cons_zero, List.set_cons_succ]
  refine wpAnyH_ready (rs := [6]) (by kernel_rfl) (by simp) ?_
  refine AllReadyH.cons rfl (fun K hK => ?_) AllReadyH.nil
  go_simp
  go_at_call 118
  refine (HN.out _).mono ?_
  rintro e w5 ⟨rfl, hb5⟩
  have b5 := b3.trans (hb5.mono b3.size)
  refine hK.out _ _ (HS.out _ b5) (fun hHeld => ?_)
  clear hK K
  try simp only [Act.put, List.getElem_toArray, List.getElem_cons_zero, List.getElem_cons_succ, List.setIfInBounds_toArray, List.set_cons_zero, List.set_cons_succ]
  refine wpAnyH_ready (rs := [7]) (by kernel_rfl) (by simp) ?_
  refine AllReadyH.cons rfl (fun K hK => ?_) AllReadyH.nil
  go_simp
  have b6 := b5.alloc b5.size (.cells #[.string a, .string b, .string x] 9)
  refine hK.out _ _ (HS.out _ b6) (fun hHeld => ?_)
  clear hK K
  try simp only [Act.put, List.getElem_toArray, List.getElem_cons_zero, List.getElem_cons_succ, List.setIfInBounds_toArray, List.set_cons_zero, List.set_cons_succ]
  have hst : Strs (w5.alloc (.cells #[.string a, .string b, .string x] 9)) (.slice (some ⟨w5.heap.size, 0, none⟩) 3 3) [a, b, x] := by
    refine ⟨_, 3, rfl, by simp, .inr ⟨w5.heap.size, 0, rfl, by simp, fun j u hu => ?_⟩⟩
    match j, hu with
    | 0, hu => cases hu; simp
    | 1, hu => cases hu; simp
    | 2, hu => cases hu; simp
  have hE := Lib.hid (rooted_any _ [a, b, x] 2 _ hst (by omega) (by simp) HX.out ((HK.out.below HB3.out).below b6))
  refine wpAnyH_ready (rs := [8]) (by kernel_rfl) (by simp) ?_
  refine AllReadyH.cons rfl (fun K hK => ?_) AllReadyH.nil
  go_simp
  go_at_call 117
  refine (hE.out).mono ?_
  rintro e w7 ⟨rfl, hb7⟩
  have b7 := b6.trans (hb7.mono b6.size)
  refine hK.out _ _ (HS.out _ b7) (fun hHeld => ?_)
  clear hK K
  try simp only [Act.put, List.getElem_toArray, List.getElem_cons_zero, List.getElem_cons_succ, List.setIfInBounds_toArray, List.set_cons_zero, List.set_cons_succ]
  obtain ⟨r1, r2, hr⟩ := rootedV_form [a, b, x] 2
  rw [hr]
  refine wpAnyH_take (i := 9) (v := .string r1) rfl (by kernel_rfl) (by kernel_rfl) (by kernel_rfl) (fun _ _ _ h => h) (.inl ⟨by rfl, ?_⟩) (by assumption) ?_
  · intro w0 hSw
    go_simp
  simp only [Act.put, List.getElem_toArray, List.getElem_cons_zero, List.getElem_cons_succ, List.setIfInBounds_toArray, List.set_cons_zero, List.set_cons_succ]
  refine wpAnyH_take (i := 10) (v := .int .i64 r2) rfl (by kernel_rfl) (by kernel_rfl) (by kernel_rfl) (fun _ _ _ h => h) (.inl ⟨by rfl, ?_⟩) (by assumption) ?_
  · intro w0 hSw
    go_simp
  simp only [Act.put, List.getElem_toArray, List.getElem_cons_zero, List.getElem_cons_succ, List.setIfInBounds_toArray, List.set_cons_zero, List.set_cons_succ]
  refine wpAnyH_take (i := 11) (v := .string r1) rfl (by kernel_rfl) (by kernel_rfl) (by kernel_rfl) (fun _ _ _ h => h) (.inl ⟨by rfl, ?_⟩) (by assumption) ?_
  · intro w0 hSw
    go_simp
  simp only [Act.put, List.getElem_toArray, List.getElem_cons_zero, List.getElem_cons_succ, List.setIfInBounds_toArray, List.set_cons_zero, List.set_cons_succ]
  refine wpAnyH_take (i := 12) (v := .int .i64 r2) rfl (by kernel_rfl) (by kernel_rfl) (by kernel_rfl) (fun _ _ _ h => h) (.inl ⟨by rfl, ?_⟩) (by assumption) ?_
  · intro w0 hSw
    go_simp
  simp only [Act.put, List.getElem_toArray, List.getElem_cons_zero, List.getElem_cons_succ, List.setIfInBounds_toArray, List.set_cons_zero, List.set_cons_succ]
  refine wpAnyH_done (by kernel_rfl) ?_ 0
  go_wp2
  go_ret2
  exact ⟨by rw [hr]; rfl, HB3.out.trans (b7.mono HB3.out.size)⟩
end Go.Proofs.YtpfmdhcmhcoddaaGreatDoor
