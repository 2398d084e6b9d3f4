/- Contracts of head.rooted and head.Root. -/
import Derived.Test.YtpfmdhcmhcoddaaGreatDoorSszE
import Derived.Deep.RegionHeld3
namespace Go.Proofs.YtpfmdhcmhcoddaaGreatDoor
open Go.RowKit Go.Shelf Go.Lib

/-- what rooted gives -/
def rootedV (xs : List ByteArray) (d : Nat) : Value := if rightB xs d then .tuple #[.string (rootB d xs noughtB), .int .i64 0] else .tuple #[.string ⟨#[]⟩, .int .i64 130]
theorem rootedV_form (xs : List ByteArray) (d : Nat) : ∃ (r1 : ByteArray) (r2 : Int), rootedV xs d = .tuple #[.string r1, .int .i64 r2] := by
  unfold rootedV; split
  · exact ⟨_, _, rfl⟩
  · exact ⟨_, _, rfl⟩
set_option maxRecDepth 100000 in
set_option maxHeartbeats 1600000 in
theorem rooted_any (v : Value) (xs : List ByteArray) (d : Nat) (w : World) (hv : Strs w v xs) (hd : d = 2 ∨ d = 3 ∨ d = 4) (hN : xs.length ≤ 1048576) (hxs : ∀ x ∈ xs, x.size ≤ 1048576) (hK : KTab w) :
    Calls Tryz.prog 117 #[.int .i64 d, v] w fun e w' => e = .returned (rootedV xs d) ∧ Below w.heap.size w w' := by
  have H := sszRoot_any v xs d w hv hd hN hxs hK
  obtain ⟨p, c, rfl, -⟩ := hv
  unfold rootedV
  cases hrb : rightB xs d with
  | true =>
    rw [hrb] at H
    have HR := Lib.hid H
    simp only [if_true] at HR
    clear H hK hxs
    go_enter Tryz.func117, Tryz.ntmps117
    go_wp2_with fail
    refine HR.out.mono ?_
    rintro e w1 ⟨rfl, hb1⟩
    go_wp2
    go_ret2
    exact ⟨rfl, hb1⟩
  | false =>
    rw [hrb] at H
    have HR := Lib.hid H
    simp only [Bool.false_eq_true, if_false] at HR
    clear H hK hxs
    go_enter Tryz.func117, Tryz.ntmps117
    go_wp2_with fail
    refine HR.out.mono ?_
    rintro e w1 ⟨rfl, hb1⟩
    go_wp2
    go_ret2
    exact ⟨rfl, hb1⟩
/-- a header's chunks -/
def hdrChunks (n m : Nat) (a b c : ByteArray) : List ByteArray := [⟨(numL n).toArray⟩, ⟨(numL m).toArray⟩, a, b, c]
theorem numL_size (n : Nat) : (⟨(numL n).toArray⟩ : ByteArray).size = 32 := by simp [ByteArray.size, numL_length]

set_option maxRecDepth 100000 in
set_option maxHeartbeats 3200000 in
theorem headRoot_any (n m : Nat) (a b c : ByteArray) (w : World) (hn : n < 18446744073709551616) (hm : m < 18446744073709551616) (ha : a.size ≤ 1048576) (hb : b.size ≤ 1048576) (hc : c.size ≤ 1048576) (hK : KTab w) :
    Calls Tryz.prog 62 #[.agg #[.int .u64 n, .int .u64 m, .string a, .string b, .string c]] w fun e w' => e = .returned (rootedV (hdrChunks n m a b c) 3) ∧ Below w.heap.size w w' := by
  have hN := fun W => sszNumber_any n W hn
  have hM := fun W => sszNumber_any m W hm
  have hx1 := numL_size n
  have hy1 := numL_size m
  unfold hdrChunks
  obtain ⟨x, hx⟩ : ∃ x : ByteArray, ⟨(numL n).toArray⟩ = x := ⟨_, rfl⟩
  obtain ⟨y, hy⟩ : ∃ y : ByteArray, ⟨(numL m).toArray⟩ = y := ⟨_, rfl⟩
  rw [hx] at hN hx1 ⊢
  rw [hy] at hM hy1 ⊢
  have HN := Lib.hid hN
  have HM := Lib.hid hM
  have HK := Lib.hid hK
  have hX : ∀ u ∈ [x, y, a, b, c], u.size ≤ 1048576 := by
    intro u hu
    simp only [List.mem_cons, List.not_mem_nil, or_false] at hu
    rcases hu with rfl | rfl | rfl | rfl | rfl <;> omega
  have HX := Lib.hid hX
  clear hN hM hx hy hK hX hx1 hy1 hn hm ha hb hc
  go_enter Tryz.func62, Tryz.ntmps62
  go_wp2_with fail
  obtain ⟨w3, hw3⟩ : ∃ w3, w.alloc (.cells #[.int .u64 n, .int .u64 m, .string a, .string b, .string c] 36) = w3 := ⟨_, rfl⟩
  have HB3 := Lib.hid ((Below.refl w.heap.size w).alloc (Nat.le_refl _) (.cells #[.int .u64 n, .int .u64 m, .string a, .string b, .string c] 36))
  have hc0 : ∀ j u, [Value.int .u64 n, .int .u64 m, .string a, .string b, .string c][j]? = some u → (w.alloc (.cells #[.int .u64 n, .int .u64 m, .string a, .string b, .string c] 36)).cell? ⟨w.heap.size, j, none⟩ = some u := fun j u h => by
    rw [World.cell?_alloc_mark]; simpa using h
  have hk : w.heap.size < (w.alloc (.cells #[.int .u64 n, .int .u64 m, .string a, .string b, .string c] 36)).heap.size := by simp
  rw [hw3] at HB3 hc0 hk ⊢
  have HS := Lib.hid (fun W' (hb : Below w3.heap.size w3 W') => (show W'.cell? ⟨w.heap.size, 0, none⟩ = some (.int .u64 n) ∧ W'.cell? ⟨w.heap.size, 1, none⟩ = some (.int .u64 m) ∧ W'.cell? ⟨w.heap.size, 2, none⟩ = some (.string a) ∧ W'.cell? ⟨w.heap.size, 3, none⟩ = some (.string b) ∧ W'.cell? ⟨w.heap.size, 4, none⟩ = some (.string c) from
    ⟨(hb.cell (p := ⟨w.heap.size, 0, none⟩) hk).trans (hc0 0 _ rfl), (hb.cell (p := ⟨w.heap.size, 1, none⟩) hk).trans (hc0 1 _ rfl), (hb.cell (p := ⟨w.heap.size, 2, none⟩) hk).trans (hc0 2 _ rfl), (hb.cell (p := ⟨w.heap.size, 3, none⟩) hk).trans (hc0 3 _ rfl), (hb.cell (p := ⟨w.heap.size, 4, none⟩) hk).trans (hc0 4 _ rfl)⟩))
  clear hw3 hc0 hk
  have b3 : Below w3.heap.size w3 w3.drew := (Below.refl _ _).drew
  refine wp_region_held_drew (S := (fun w' => w'.cell? ⟨w.heap.size, 0, none⟩ = some (.int .u64 n) ∧ w'.cell? ⟨w.heap.size, 1, none⟩ = some (.int .u64 m) ∧ w'.cell? ⟨w.heap.size, 2, none⟩ = some (.string a) ∧ w'.cell? ⟨w.heap.size, 3, none⟩ = some (.string b) ∧ w'.cell? ⟨w.heap.size, 4, none⟩ = some (.string c))) (by kernel_rfl) (HS.out _ b3) (fun hHeld => ?_)
  refine wpAnyH_take (i := 0) (v := .pointer (some ⟨w.heap.size, 0, none⟩)) rfl (by kernel_rfl) (by kernel_rfl) (by kernel_rfl) (fun _ _ _ h => h) (.inl ⟨by rfl, ?_⟩) (by assumption) ?_
  · intro w0 hSw
    go_simp
  simp only [Act.put, List.getElem_toArray, List.getElem_cons_zero, List.setIfInBounds_toArray, List.set_cons_zero, List.set_cons_succ]
  refine wpAnyH_take (i := 1) (v := .int .u64 n) rfl (by kernel_rfl) (by kernel_rfl) (by kernel_rfl) (fun _ _ _ h => h) (.inl ⟨by rfl, ?_⟩) (by assumption) ?_
  · intro w0 hSw
    obtain ⟨z0, z1, z2, z3, z4⟩ := hSw
    go_simp
  simp only [Act.put, List.getElem_toArray, List.getElem_cons_zero, List.getElem_cons_succ, List.setIfInBounds_toArray, List.set_cons_zero, List.set_cons_succ]
  refine wpAnyH_take (i := 3) (v := .pointer (some ⟨w.heap.size, 1, none⟩)) rfl (by kernel_rfl) (by kernel_rfl) (by kernel_rfl) (fun _ _ _ h => h) (.inl ⟨by rfl, ?_⟩) (by assumption) ?_
  · intro w0 hSw
    go_simp
  simp only [Act.put, List.getElem_toArray, List.getElem_cons_zero, List.getElem_cons_succ, List.setIfInBounds_toArray, List.set_cons_zero, List.set_cons_succ]
  refine wpAnyH_take (i := 4) (v := .int .u64 m) rfl (by kernel_rfl) (by kernel_rfl) (by kernel_rfl) (fun _ _ _ h => h) (.inl ⟨by rfl, ?_⟩) (by assumption) ?_
  · intro w0 hSw
    obtain ⟨z0, z1, z2, z3, z4⟩ := hSw
    go_simp
  simp only [Act.put, List.getElem_toArray, List.getElem_cons_zero, List.getElem_cons_succ, List.setIfInBounds_toArray, List.set_cons_zero, List.set_cons_succ]
  refine wpAnyH_take (i := 6) (v := .pointer (some ⟨w.heap.size, 2, none⟩)) rfl (by kernel_rfl) (by kernel_rfl) (by kernel_rfl) (fun _ _ _ h => h) (.inl ⟨by rfl, ?_⟩) (by assumption) ?_
  · intro w0 hSw
    go_simp
  simp only [Act.put, List.getElem_toArray, List.getElem_cons_zero, List.getElem_cons_succ, List.setIfInBounds_toArray, List.set_cons_zero, List.set_cons_succ]
  refine wpAnyH_take (i := 7) (v := .string a) rfl (by kernel_rfl) (by kernel_rfl) (by kernel_rfl) (fun _ _ _ h => h) (.inl ⟨by rfl, ?_⟩) (by assumption) ?_
  · intro w0 hSw
    obtain ⟨z0, z1, z2, z3, z4⟩ := hSw
    go_simp
  simp only [Act.put, List.getElem_toArray, List.getElem_cons_zero, List.getElem_cons_succ, List.setIfInBounds_toArray, List.set_cons_zero, List.set_cons_succ]
  refine wpAnyH_take (i := 8) (v := .pointer (some ⟨w.heap.size, 3, none⟩)) rfl (by kernel_rfl) (by kernel_rfl) (by kernel_rfl) (fun _ _ _ h => h) (.inl ⟨by rfl, ?_⟩) (by assumption) ?_
  · intro w0 hSw
    go_simp
  simp only [Act.put, List.getElem_toArray, List.getElem_cons_zero, List.getElem_cons_succ, List.setIfInBounds_toArray, List.set_cons_zero, List.set_cons_succ]
  refine wpAnyH_take (i := 9) (v := .string b) rfl (by kernel_rfl) (by kernel_rfl) (by kernel_rfl) (fun _ _ _ h => h) (.inl ⟨by rfl, ?_⟩) (by assumption) ?_
  · intro w0 hSw
    obtain ⟨z0, z1, z2, z3, z4⟩ := hSw
    go_simp
  simp only [Act.put, List.getElem_toArray, List.getElem_cons_zero, List.getElem_cons_succ, List.setIfInBounds_toArray, List.set_cons_zero, List.set_cons_succ]
  refine wpAnyH_take (i := 10) (v := .pointer (some ⟨w.heap.size, 4, none⟩)) rfl (by kernel_rfl) (by kernel_rfl) (by kernel_rfl) (fun _ _ _ h => h) (.inl ⟨by rfl, ?_⟩) (by assumption) ?_
  · intro w0 hSw
    go_simp
  simp only [Act.put, List.getElem_toArray, List.getElem_cons_zero, List.getElem_cons_succ, List.setIfInBounds_toArray, List.set_cons_zero, List.set_cons_succ]
  refine wpAnyH_take (i := 11) (v := .string c) rfl (by kernel_rfl) (by kernel_rfl) (by kernel_rfl) (fun _ _ _ h => h) (.inl ⟨by rfl, ?_⟩) (by assumption) ?_
  · intro w0 hSw
    obtain ⟨z0, z1, z2, z3, z4⟩ := hSw
    go_simp
  simp only [Act.put, List.getElem_toArray, List.getElem_cons_zero, List.getElem_cons_succ, List.setIfInBounds_toArray, List.set_cons_zero, List.set_cons_succ]
  refine wpAnyH_ready (rs := [2]) (by kernel_rfl) (by simp) ?_
  refine AllReadyH.cons rfl (fun K hK => ?_) AllReadyH.nil
  go_simp
  go_at_call 118
  refine (HN.out _).mono ?_
  rintro e w4 ⟨rfl, hb4⟩
  have b4 := b3.trans (hb4.mono b3.size)
  refine hK.out _ _ (HS.out _ b4) (fun hHeld => ?_)
  clear hK K
  try simp only [Act.put, List.getElem_toArray, List.getElem_cons_zero, List.getElem_cons_succ, List.setIfInBounds_toArray, List.set_cons_zero, List.set_cons_succ]
  refine wpAnyH_ready (rs := [5]) (by kernel_rfl) (by simp) ?_
  refine AllReadyH.cons rfl (fun K hK => ?_) AllReadyH.nil
  go_simp
  go_at_call 118
  refine (HM.out _).mono ?_
  rintro e w5 ⟨rfl, hb5⟩
  have b5 := b4.trans (hb5.mono b4.size)
  refine hK.out _ _ (HS.out _ b5) (fun hHeld => ?_)
  clear hK K
  try simp only [Act.put, List.getElem_toArray, List.getElem_cons_zero, List.getElem_cons_succ, List.setIfInBounds_toArray, List.set_cons_zero, List.set_cons_succ]
  refine wpAnyH_ready (rs := [12]) (by kernel_rfl) (by simp) ?_
  refine AllReadyH.cons rfl (fun K hK => ?_) AllReadyH.nil
  go_simp
  have b6 := b5.alloc b5.size (.cells #[.string x, .string y, .string a, .string b, .string c] 9)
  refine hK.out _ _ (HS.out _ b6) (fun hHeld => ?_)
  clear hK K
  try simp only [Act.put, List.getElem_toArray, List.getElem_cons_zero, List.getElem_cons_succ, List.setIfInBounds_toArray, List.set_cons_zero, List.set_cons_succ]
  have hst : Strs (w5.alloc (.cells #[.string x, .string y, .string a, .string b, .string c] 9)) (.slice (some ⟨w5.heap.size, 0, none⟩) 5 5) [x, y, a, b, c] := by
    refine ⟨_, 5, rfl, by simp, .inr ⟨w5.heap.size, 0, rfl, by simp, fun j u hu => ?_⟩⟩
    match j, hu with
    | 0, hu => cases hu; simp
    | 1, hu => cases hu; simp
    | 2, hu => cases hu; simp
    | 3, hu => cases hu; simp
    | 4, hu => cases hu; simp
  have hE := Lib.hid (rooted_any _ [x, y, a, b, c] 3 _ hst (by omega) (by simp) HX.out ((HK.out.below HB3.out).below b6))
  refine wpAnyH_ready (rs := [13]) (by kernel_rfl) (by simp) ?_
  refine AllReadyH.cons rfl (fun K hK => ?_) AllReadyH.nil
  go_simp
  go_at_call 117
  refine (hE.out).mono ?_
  rintro e w7 ⟨rfl, hb7⟩
  have b7 := b6.trans (hb7.mono b6.size)
  refine hK.out _ _ (HS.out _ b7) (fun hHeld => ?_)
  clear hK K
  try simp only [Act.put, List.getElem_toArray, List.getElem_cons_zero, List.getElem_cons_succ, List.setIfInBounds_toArray, List.set_cons_zero, List.set_cons_succ]
  obtain ⟨r1, r2, hr⟩ := rootedV_form [x, y, a, b, c] 3
  rw [hr]
  refine wpAnyH_take (i := 14) (v := .string r1) rfl (by kernel_rfl) (by kernel_rfl) (by kernel_rfl) (fun _ _ _ h => h) (.inl ⟨by rfl, ?_⟩) (by assumption) ?_
  · intro w0 hSw
    go_simp
  simp only [Act.put, List.getElem_toArray, List.getElem_cons_zero, List.getElem_cons_succ, List.setIfInBounds_toArray, List.set_cons_zero, List.set_cons_succ]
  refine wpAnyH_take (i := 15) (v := .int .i64 r2) rfl (by kernel_rfl) (by kernel_rfl) (by kernel_rfl) (fun _ _ _ h => h) (.inl ⟨by rfl, ?_⟩) (by assumption) ?_
  · intro w0 hSw
    go_simp
  simp only [Act.put, List.getElem_toArray, List.getElem_cons_zero, List.getElem_cons_succ, List.setIfInBounds_toArray, List.set_cons_zero, List.set_cons_succ]
  refine wpAnyH_take (i := 16) (v := .string r1) rfl (by kernel_rfl) (by kernel_rfl) (by kernel_rfl) (fun _ _ _ h => h) (.inl ⟨by rfl, ?_⟩) (by assumption) ?_
  · intro w0 hSw
    go_simp
  simp only [Act.put, List.getElem_toArray, List.getElem_cons_zero, List.getElem_cons_succ, List.setIfInBounds_toArray, List.set_cons_zero, List.set_cons_succ]
  refine wpAnyH_take (i := 17) (v := .int .i64 r2) rfl (by kernel_rfl) (by kernel_rfl) (by kernel_rfl) (fun _ _ _ h => h) (.inl ⟨by rfl, ?_⟩) (by assumption) ?_
  · intro w0 hSw
    go_simp
  simp only [Act.put, List.getElem_toArray, List.getElem_cons_zero, List.getElem_cons_succ, List.setIfInBounds_toArray, List.set_cons_zero, List.set_cons_succ]
  refine wpAnyH_done (by kernel_rfl) ?_ 0
  go_wp2
  go_ret2
  exact ⟨by rw [hr]; rfl, HB3.out.trans (b7.mono HB3.out.size)⟩
end Go.Proofs.YtpfmdhcmhcoddaaGreatDoor
