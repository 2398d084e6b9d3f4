/- Contracts of head.BootBytes, pharosref13.BootBytes. -/
import Derived.Test.YtfbopnebfdkhdaaDoorItL
import Derived.Test.YtfbopnebfdkhdaaDoorItmJ
import Derived.Test.YtfbopnebfdkhdaaDoorItmO
namespace Go.Proofs.YtfbopnebfdkhdaaDoor
open Go.RowKit Go.Shelf Go.Lib
attribute [local go_sem] Oper.semAt_some

/-- a Boot's items -/
def bootItems (n0 m0 : Nat) (a0 b0 c0 d0 e0 : ByteArray) (k0 : Nat) (br0 : List ByteArray) (br1 : List ByteArray) (s1 : ByteArray) (br2 : List ByteArray) : List Item := [itL (lightItems n0 m0 a0 b0 c0 d0 e0 k0 br0), itL (commItems br1 s1), itTs br2]
set_option maxRecDepth 100000 in
set_option maxHeartbeats 20000000 in
theorem itBoot_any (n0 m0 : Nat) (a0 b0 c0 d0 e0 : ByteArray) (k0 : Nat) (p0 : Option Addr) (l0 q0 : Nat) (br0 : List ByteArray) (p1 : Option Addr) (l1 q1 : Nat) (br1 : List ByteArray) (s1 : ByteArray) (p2 : Option Addr) (l2 q2 : Nat) (br2 : List ByteArray) (w : World) (hn0 : n0 < 18446744073709551616) (hm0 : m0 < 18446744073709551616) (hk0 : k0 < 18446744073709551616) (hv0 : Strs w (.slice p0 l0 q0) br0) (hN0 : br0.length ≤ 1048576) (hv1 : Strs w (.slice p1 l1 q1) br1) (hN1 : br1.length ≤ 1048576) (hv2 : Strs w (.slice p2 l2 q2) br2) (hN2 : br2.length ≤ 1048576) (hw : (itL (bootItems n0 m0 a0 b0 c0 d0 e0 k0 br0 br1 s1 br2)).weight ≤ 1073741824) :
    Calls Tryd.prog 29 #[.agg #[.int .u64 n0, .int .u64 m0, .string a0, .string b0, .string c0, .string d0, .string e0, .int .u64 k0, .slice p0 l0 q0, .slice p1 l1 q1, .string s1, .slice p2 l2 q2]] w fun z w' => z = .returned (encodeV (itL (bootItems n0 m0 a0 b0 c0 d0 e0 k0 br0 br1 s1 br2))) ∧ Below w.heap.size w w' := by
  have he := fun lo v W (h : RIn W lo v (bootItems n0 m0 a0 b0 c0 d0 e0 k0 br0 br1 s1 br2)) => encode_any (itL (bootItems n0 m0 a0 b0 c0 d0 e0 k0 br0 br1 s1 br2)) v W (by have := size_weight (itL (bootItems n0 m0 a0 b0 c0 d0 e0 k0 br0 br1 s1 br2)); omega) (by have := put_weight (itL (bootItems n0 m0 a0 b0 c0 d0 e0 k0 br0 br1 s1 br2)); omega) h.reads
  unfold encodeV at he ⊢
  obtain ⟨r1, hr1⟩ : ∃ r : ByteArray, ⟨(encode (itL (bootItems n0 m0 a0 b0 c0 d0 e0 k0 br0 br1 s1 br2))).1.toArray⟩ = r := ⟨_, rfl⟩
  obtain ⟨r2, hr2⟩ : ∃ r, (encode (itL (bootItems n0 m0 a0 b0 c0 d0 e0 k0 br0 br1 s1 br2))).2 = r := ⟨_, rfl⟩
  rw [hr1, hr2] at he ⊢
  have HE := Lib.hid he
  have HT0 := Lib.hid (fun W (h : Strs W (.slice p0 l0 q0) br0) => itLight_any n0 m0 a0 b0 c0 d0 e0 k0 (.slice p0 l0 q0) br0 W hn0 hm0 hk0 h hN0)
  have HV0 := Lib.hid hv0
  have HT1 := Lib.hid (fun W (h : Strs W (.slice p1 l1 q1) br1) => itComm_any (.slice p1 l1 q1) br1 s1 W h hN1)
  have HV1 := Lib.hid hv1
  have HT2 := Lib.hid (fun W (h : Strs W (.slice p2 l2 q2) br2) => itTexts_any (.slice p2 l2 q2) br2 W h hN2)
  have HV2 := Lib.hid hv2
  clear he hr1 hr2 hw hn0 hm0 hk0 hv0 hN0 hv1 hN1 hv2 hN2
  go_enter Tryd.func29, Tryd.ntmps29
  go_wp2_with fail
  obtain ⟨w4, hw4⟩ : ∃ w4, w.alloc (.cells #[.int .u64 n0, .int .u64 m0, .string a0, .string b0, .string c0, .string d0, .string e0, .int .u64 k0, .slice p0 l0 q0, .slice p1 l1 q1, .string s1, .slice p2 l2 q2] 48) = w4 := ⟨_, rfl⟩
  have HB4 := Lib.hid (show Below w.heap.size w w4 from by rw [← hw4]; exact laid1 w _)
  have hc0 : ∀ j u, [Value.int .u64 n0, .int .u64 m0, .string a0, .string b0, .string c0, .string d0, .string e0, .int .u64 k0, .slice p0 l0 q0, .slice p1 l1 q1, .string s1, .slice p2 l2 q2][j]? = some u → w4.cell? ⟨w.heap.size, j, none⟩ = some u := fun j u h => by
    rw [← hw4, World.cell?_alloc_mark]; simpa using h
  have hk4 : w.heap.size < w4.heap.size := by rw [← hw4]; simp
  have HS := Lib.hid (fun W (hb : Below w4.heap.size w4 W) => (show W.cell? ⟨w.heap.size, 0, none⟩ = some (.int .u64 n0) ∧ W.cell? ⟨w.heap.size, 1, none⟩ = some (.int .u64 m0) ∧ W.cell? ⟨w.heap.size, 2, none⟩ = some (.string a0) ∧ W.cell? ⟨w.heap.size, 3, none⟩ = some (.string b0) ∧ W.cell? ⟨w.heap.size, 4, none⟩ = some (.string c0) ∧ W.cell? ⟨w.heap.size, 5, none⟩ = some (.string d0) ∧ W.cell? ⟨w.heap.size, 6, none⟩ = some (.string e0) ∧ W.cell? ⟨w.heap.size, 7, none⟩ = some (.int .u64 k0) ∧ W.cell? ⟨w.heap.size, 8, none⟩ = some (.slice p0 l0 q0) ∧ W.cell? ⟨w.heap.size, 9, none⟩ = some (.slice p1 l1 q1) ∧ W.cell? ⟨w.heap.size, 10, none⟩ = some (.string s1) ∧ W.cell? ⟨w.heap.size, 11, none⟩ = some (.slice p2 l2 q2) from ⟨(hb.cell (p := ⟨w.heap.size, 0, none⟩) hk4).trans (hc0 0 _ rfl), (hb.cell (p := ⟨w.heap.size, 1, none⟩) hk4).trans (hc0 1 _ rfl), (hb.cell (p := ⟨w.heap.size, 2, none⟩) hk4).trans (hc0 2 _ rfl), (hb.cell (p := ⟨w.heap.size, 3, none⟩) hk4).trans (hc0 3 _ rfl), (hb.cell (p := ⟨w.heap.size, 4, none⟩) hk4).trans (hc0 4 _ rfl), (hb.cell (p := ⟨w.heap.size, 5, none⟩) hk4).trans (hc0 5 _ rfl), (hb.cell (p := ⟨w.heap.size, 6, none⟩) hk4).trans (hc0 6 _ rfl), (hb.cell (p := ⟨w.heap.size, 7, none⟩) hk4).trans (hc0 7 _ rfl), (hb.cell (p := ⟨w.heap.size, 8, none⟩) hk4).trans (hc0 8 _ rfl), (hb.cell (p := ⟨w.heap.size, 9, none⟩) hk4).trans (hc0 9 _ rfl), (hb.cell (p := ⟨w.heap.size, 10, none⟩) hk4).trans (hc0 10 _ rfl), (hb.cell (p := ⟨w.heap.size, 11, none⟩) hk4).trans (hc0 11 _ rfl)⟩))
  rw [hw4]
  clear hw4 hc0
  have b4 : Below w4.heap.size w4 w4.drew := (Below.refl _ _).drew
  refine wp_region_held_drew (S := (fun W => W.cell? ⟨w.heap.size, 0, none⟩ = some (.int .u64 n0) ∧ W.cell? ⟨w.heap.size, 1, none⟩ = some (.int .u64 m0) ∧ W.cell? ⟨w.heap.size, 2, none⟩ = some (.string a0) ∧ W.cell? ⟨w.heap.size, 3, none⟩ = some (.string b0) ∧ W.cell? ⟨w.heap.size, 4, none⟩ = some (.string c0) ∧ W.cell? ⟨w.heap.size, 5, none⟩ = some (.string d0) ∧ W.cell? ⟨w.heap.size, 6, none⟩ = some (.string e0) ∧ W.cell? ⟨w.heap.size, 7, none⟩ = some (.int .u64 k0) ∧ W.cell? ⟨w.heap.size, 8, none⟩ = some (.slice p0 l0 q0) ∧ W.cell? ⟨w.heap.size, 9, none⟩ = some (.slice p1 l1 q1) ∧ W.cell? ⟨w.heap.size, 10, none⟩ = some (.string s1) ∧ W.cell? ⟨w.heap.size, 11, none⟩ = some (.slice p2 l2 q2))) (by kernel_rfl) (HS.out _ b4) (fun hHeld => ?_)
  refine wpAnyH_take (i := 0) (v := ?_) rfl (by kernel_rfl) (by kernel_rfl) (by kernel_rfl) (fun _ _ _ h => h) (.inl ⟨by rfl, ?_⟩) (by assumption) ?_
  rotate_left 1
  · intro w0 hSw
    go_simp <;> with_reducible rfl
  try simp only [Act.put, List.getElem_toArray, List.getElem_cons_zero, List.setIfInBounds_toArray, List.set_cons_zero, List.set_cons_succ]
  refine wpAnyH_take (i := 1) (v := ?_) rfl (by kernel_rfl) (by kernel_rfl) (by kernel_rfl) (fun _ _ _ h => h) (.inl ⟨by rfl, ?_⟩) (by assumption) ?_
  rotate_left 1
  · intro w0 hSw
    obtain ⟨z0, z1, z2, z3, z4, z5, z6, z7, z8, z9, z10, z11⟩ := hSw
    go_simp <;> with_reducible rfl
  try simp only [Act.put, List.getElem_toArray, List.getElem_cons_zero, List.getElem_cons_succ, List.setIfInBounds_toArray, List.set_cons_zero, List.set_cons_succ]
  refine wpAnyH_take (i := 3) (v := ?_) rfl (by kernel_rfl) (by kernel_rfl) (by kernel_rfl) (fun _ _ _ h => h) (.inl ⟨by rfl, ?_⟩) (by assumption) ?_
  rotate_left 1
  · intro w0 hSw
    go_simp <;> with_reducible rfl
  try simp only [Act.put, List.getElem_toArray, List.getElem_cons_zero, List.getElem_cons_succ, List.setIfInBounds_toArray, List.set_cons_zero, List.set_cons_succ]
  refine wpAnyH_take (i := 4) (v := ?_) rfl (by kernel_rfl) (by kernel_rfl) (by kernel_rfl) (fun _ _ _ h => h) (.inl ⟨by rfl, ?_⟩) (by assumption) ?_
  rotate_left 1
  · intro w0 hSw
    obtain ⟨z0, z1, z2, z3, z4, z5, z6, z7, z8, z9, z10, z11⟩ := hSw
    go_simp <;> with_reducible rfl
  try simp only [Act.put, List.getElem_toArray, List.getElem_cons_zero, List.getElem_cons_succ, List.setIfInBounds_toArray, List.set_cons_zero, List.set_cons_succ]
  refine wpAnyH_take (i := 6) (v := ?_) rfl (by kernel_rfl) (by kernel_rfl) (by kernel_rfl) (fun _ _ _ h => h) (.inl ⟨by rfl, ?_⟩) (by assumption) ?_
  rotate_left 1
  · intro w0 hSw
    go_simp <;> with_reducible rfl
  try simp only [Act.put, List.getElem_toArray, List.getElem_cons_zero, List.getElem_cons_succ, List.setIfInBounds_toArray, List.set_cons_zero, List.set_cons_succ]
  refine wpAnyH_take (i := 7) (v := ?_) rfl (by kernel_rfl) (by kernel_rfl) (by kernel_rfl) (fun _ _ _ h => h) (.inl ⟨by rfl, ?_⟩) (by assumption) ?_
  rotate_left 1
  · intro w0 hSw
    obtain ⟨z0, z1, z2, z3, z4, z5, z6, z7, z8, z9, z10, z11⟩ := hSw
    go_simp <;> with_reducible rfl
  try simp only [Act.put, List.getElem_toArray, List.getElem_cons_zero, List.getElem_cons_succ, List.setIfInBounds_toArray, List.set_cons_zero, List.set_cons_succ]
  refine wpAnyH_ready (rs := [2]) (by kernel_rfl) (by simp) ?_
  refine AllReadyH.cons rfl (fun K hK => ?_) AllReadyH.nil
  go_simp
  go_at_call 63
  refine (HT0.out _ (HV0.out.below (HB4.out.trans (b4.mono HB4.out.size)))).mono ?_
  rintro z w5 ⟨x0, y0, v0, rfl, hr0, hb5⟩
  have b5 : Below w4.heap.size w4 w5 := b4.trans (hb5.mono b4.size)
  have HR0_5 := Lib.hid (RIn.mono hr0 b4.size)
  clear hr0
  clear hb5
  refine hK.out _ _ (HS.out _ b5) (fun hHeld => ?_)
  clear hK K
  try simp only [Act.put, List.getElem_toArray, List.getElem_cons_zero, List.getElem_cons_succ, List.setIfInBounds_toArray, List.set_cons_zero, List.set_cons_succ]
  refine wpAnyH_ready (rs := [5]) (by kernel_rfl) (by simp) ?_
  refine AllReadyH.cons rfl (fun K hK => ?_) AllReadyH.nil
  go_simp
  go_at_call 64
  refine (HT1.out _ (HV1.out.below (HB4.out.trans (b5.mono HB4.out.size)))).mono ?_
  rintro z w6 ⟨x1, y1, v1, rfl, hr1, hb6⟩
  have b6 : Below w4.heap.size w4 w6 := b5.trans (hb6.mono b5.size)
  have HR0_6 := Lib.hid (HR0_5.out.below hb6)
  clear HR0_5
  have HR1_6 := Lib.hid (RIn.mono hr1 b5.size)
  clear hr1
  clear hb6
  refine hK.out _ _ (HS.out _ b6) (fun hHeld => ?_)
  clear hK K
  try simp only [Act.put, List.getElem_toArray, List.getElem_cons_zero, List.getElem_cons_succ, List.setIfInBounds_toArray, List.set_cons_zero, List.set_cons_succ]
  refine wpAnyH_ready (rs := [8]) (by kernel_rfl) (by simp) ?_
  refine AllReadyH.cons rfl (fun K hK => ?_) AllReadyH.nil
  go_simp
  go_at_call 65
  refine (HT2.out _ (HV2.out.below (HB4.out.trans (b6.mono HB4.out.size)))).mono ?_
  rintro z w7 ⟨x2, y2, v2, rfl, hr2, hb7⟩
  have b7 : Below w4.heap.size w4 w7 := b6.trans (hb7.mono b6.size)
  have HR0_7 := Lib.hid (HR0_6.out.below hb7)
  have HR1_7 := Lib.hid (HR1_6.out.below hb7)
  clear HR0_6 HR1_6
  have HR2_7 := Lib.hid (RIn.mono hr2 b6.size)
  clear hr2
  clear hb7
  refine hK.out _ _ (HS.out _ b7) (fun hHeld => ?_)
  clear hK K
  try simp only [Act.put, List.getElem_toArray, List.getElem_cons_zero, List.getElem_cons_succ, List.setIfInBounds_toArray, List.set_cons_zero, List.set_cons_succ]
  refine wpAnyH_ready (rs := [9]) (by kernel_rfl) (by simp) ?_
  refine AllReadyH.cons rfl (fun K hK => ?_) AllReadyH.nil
  go_simp
  have hal : ∃ W, w7.alloc (.cells #[.bool true, .string ⟨#[]⟩, .slice x0 y0 v0, .bool true, .string ⟨#[]⟩, .slice x1 y1 v1, .bool true, .string ⟨#[]⟩, .slice x2 y2 v2] 80) = W := ⟨_, rfl⟩
  obtain ⟨w8, hal⟩ := hal
  have hb8 : Below w7.heap.size w7 w8 := by rw [← hal]; exact (Below.refl _ _).alloc (Nat.le_refl _) _
  have b8 : Below w4.heap.size w4 w8 := b7.trans (hb8.mono b7.size)
  have HL_8 := Lib.hid (show RIn w8 w4.heap.size (.slice (some ⟨w7.heap.size, 0, none⟩) 3 3) [itL (lightItems n0 m0 a0 b0 c0 d0 e0 k0 br0), itL (commItems br1 s1), itTs br2] from by
    rw [← hal]
    refine reads_new w7 w4.heap.size 3 [(itL (lightItems n0 m0 a0 b0 c0 d0 e0 k0 br0), .slice x0 y0 v0), (itL (commItems br1 s1), .slice x1 y1 v1), (itTs br2, .slice x2 y2 v2)] rfl b7.size (fun q hq => ?_)
    simp only [List.mem_cons, List.not_mem_nil, or_false] at hq
    rcases hq with rfl | rfl | rfl
    · exact HR0_7.out
    · exact HR1_7.out
    · exact HR2_7.out)
  rw [hal]
  clear hal hb8 HR0_7 HR1_7 HR2_7
  refine hK.out _ _ (HS.out _ b8) (fun hHeld => ?_)
  clear hK K
  try simp only [Act.put, List.getElem_toArray, List.getElem_cons_zero, List.getElem_cons_succ, List.setIfInBounds_toArray, List.set_cons_zero, List.set_cons_succ]
  refine wpAnyH_ready (rs := [10]) (by kernel_rfl) (by simp) ?_
  refine AllReadyH.cons rfl (fun K hK => ?_) AllReadyH.nil
  go_simp
  go_at_call 62
  refine (list_any _ _ _ _).mono ?_
  rintro z w9 ⟨rfl, hb9⟩
  have b9 : Below w4.heap.size w4 w9 := b8.trans (hb9.mono b8.size)
  have HL_9 := Lib.hid (HL_8.out.below hb9)
  clear HL_8
  clear hb9
  refine hK.out _ _ (HS.out _ b9) (fun hHeld => ?_)
  clear hK K
  try simp only [Act.put, List.getElem_toArray, List.getElem_cons_zero, List.getElem_cons_succ, List.setIfInBounds_toArray, List.set_cons_zero, List.set_cons_succ]
  refine wpAnyH_ready (rs := [11]) (by kernel_rfl) (by simp) ?_
  refine AllReadyH.cons rfl (fun K hK => ?_) AllReadyH.nil
  go_simp
  go_at_call 61
  refine (HE.out _ _ _ HL_9.out).mono ?_
  rintro z w10 ⟨rfl, hb10⟩
  have b10 : Below w4.heap.size w4 w10 := b9.trans (hb10.mono b9.size)
  have HL_10 := Lib.hid (HL_9.out.below hb10)
  clear HL_9
  clear hb10
  refine hK.out _ _ (HS.out _ b10) (fun hHeld => ?_)
  clear hK K
  try simp only [Act.put, List.getElem_toArray, List.getElem_cons_zero, List.getElem_cons_succ, List.setIfInBounds_toArray, List.set_cons_zero, List.set_cons_succ]
  refine wpAnyH_take (i := 12) (v := ?_) rfl (by kernel_rfl) (by kernel_rfl) (by kernel_rfl) (fun _ _ _ h => h) (.inl ⟨by rfl, ?_⟩) (by assumption) ?_
  rotate_left 1
  · intro w0 hSw
    go_simp <;> with_reducible rfl
  try simp only [Act.put, List.getElem_toArray, List.getElem_cons_zero, List.getElem_cons_succ, List.setIfInBounds_toArray, List.set_cons_zero, List.set_cons_succ]
  refine wpAnyH_take (i := 13) (v := ?_) rfl (by kernel_rfl) (by kernel_rfl) (by kernel_rfl) (fun _ _ _ h => h) (.inl ⟨by rfl, ?_⟩) (by assumption) ?_
  rotate_left 1
  · intro w0 hSw
    go_simp <;> with_reducible rfl
  try simp only [Act.put, List.getElem_toArray, List.getElem_cons_zero, List.getElem_cons_succ, List.setIfInBounds_toArray, List.set_cons_zero, List.set_cons_succ]
  refine wpAnyH_take (i := 14) (v := ?_) rfl (by kernel_rfl) (by kernel_rfl) (by kernel_rfl) (fun _ _ _ h => h) (.inl ⟨by rfl, ?_⟩) (by assumption) ?_
  rotate_left 1
  · intro w0 hSw
    go_simp <;> with_reducible rfl
  try simp only [Act.put, List.getElem_toArray, List.getElem_cons_zero, List.getElem_cons_succ, List.setIfInBounds_toArray, List.set_cons_zero, List.set_cons_succ]
  refine wpAnyH_take (i := 15) (v := ?_) rfl (by kernel_rfl) (by kernel_rfl) (by kernel_rfl) (fun _ _ _ h => h) (.inl ⟨by rfl, ?_⟩) (by assumption) ?_
  rotate_left 1
  · intro w0 hSw
    go_simp <;> with_reducible rfl
  try simp only [Act.put, List.getElem_toArray, List.getElem_cons_zero, List.getElem_cons_succ, List.setIfInBounds_toArray, List.set_cons_zero, List.set_cons_succ]
  refine wpAnyH_done (by kernel_rfl) ?_ 0
  go_wp2
  go_ret2
  exact ⟨rfl, HB4.out.trans (b10.mono HB4.out.size)⟩
set_option maxRecDepth 100000 in
set_option maxHeartbeats 20000000 in
theorem ritBoot_any (n0 m0 : Nat) (a0 b0 c0 d0 e0 : ByteArray) (k0 : Nat) (p0 : Option Addr) (l0 q0 : Nat) (br0 : List ByteArray) (p1 : Option Addr) (l1 q1 : Nat) (br1 : List ByteArray) (s1 : ByteArray) (p2 : Option Addr) (l2 q2 : Nat) (br2 : List ByteArray) (w : World) (hn0 : n0 < 18446744073709551616) (hm0 : m0 < 18446744073709551616) (hk0 : k0 < 18446744073709551616) (hv0 : Strs w (.slice p0 l0 q0) br0) (hN0 : br0.length ≤ 1048576) (hv1 : Strs w (.slice p1 l1 q1) br1) (hN1 : br1.length ≤ 1048576) (hv2 : Strs w (.slice p2 l2 q2) br2) (hN2 : br2.length ≤ 1048576) (hw : (itL (bootItems n0 m0 a0 b0 c0 d0 e0 k0 br0 br1 s1 br2)).weight ≤ 1073741824) :
    Calls Tryd.prog 30 #[.agg #[.int .u64 n0, .int .u64 m0, .string a0, .string b0, .string c0, .string d0, .string e0, .int .u64 k0, .slice p0 l0 q0, .slice p1 l1 q1, .string s1, .slice p2 l2 q2]] w fun z w' => z = .returned (encodeV (itL (bootItems n0 m0 a0 b0 c0 d0 e0 k0 br0 br1 s1 br2))) ∧ Below w.heap.size w w' := by
  have he := fun lo v W (h : RIn W lo v (bootItems n0 m0 a0 b0 c0 d0 e0 k0 br0 br1 s1 br2)) => encodeRef_any (itL (bootItems n0 m0 a0 b0 c0 d0 e0 k0 br0 br1 s1 br2)) v W (by have := size_weight (itL (bootItems n0 m0 a0 b0 c0 d0 e0 k0 br0 br1 s1 br2)); omega) (by have := put_weight (itL (bootItems n0 m0 a0 b0 c0 d0 e0 k0 br0 br1 s1 br2)); omega) h.reads
  unfold encodeV at he ⊢
  obtain ⟨r1, hr1⟩ : ∃ r : ByteArray, ⟨(encode (itL (bootItems n0 m0 a0 b0 c0 d0 e0 k0 br0 br1 s1 br2))).1.toArray⟩ = r := ⟨_, rfl⟩
  obtain ⟨r2, hr2⟩ : ∃ r, (encode (itL (bootItems n0 m0 a0 b0 c0 d0 e0 k0 br0 br1 s1 br2))).2 = r := ⟨_, rfl⟩
  rw [hr1, hr2] at he ⊢
  have HE := Lib.hid he
  have HT0 := Lib.hid (fun W (h : Strs W (.slice p0 l0 q0) br0) => ritLight_any n0 m0 a0 b0 c0 d0 e0 k0 (.slice p0 l0 q0) br0 W hn0 hm0 hk0 h hN0)
  have HV0 := Lib.hid hv0
  have HT1 := Lib.hid (fun W (h : Strs W (.slice p1 l1 q1) br1) => ritComm_any (.slice p1 l1 q1) br1 s1 W h hN1)
  have HV1 := Lib.hid hv1
  have HT2 := Lib.hid (fun W (h : Strs W (.slice p2 l2 q2) br2) => ritTexts_any (.slice p2 l2 q2) br2 W h hN2)
  have HV2 := Lib.hid hv2
  clear he hr1 hr2 hw hn0 hm0 hk0 hv0 hN0 hv1 hN1 hv2 hN2
  go_enter Tryd.func30, Tryd.ntmps30
  go_wp2_with fail
  obtain ⟨w4, hw4⟩ : ∃ w4, w.alloc (.cells #[.int .u64 n0, .int .u64 m0, .string a0, .string b0, .string c0, .string d0, .string e0, .int .u64 k0, .slice p0 l0 q0, .slice p1 l1 q1, .string s1, .slice p2 l2 q2] 48) = w4 := ⟨_, rfl⟩
  have HB4 := Lib.hid (show Below w.heap.size w w4 from by rw [← hw4]; exact laid1 w _)
  have hc0 : ∀ j u, [Value.int .u64 n0, .int .u64 m0, .string a0, .string b0, .string c0, .string d0, .string e0, .int .u64 k0, .slice p0 l0 q0, .slice p1 l1 q1, .string s1, .slice p2 l2 q2][j]? = some u → w4.cell? ⟨w.heap.size, j, none⟩ = some u := fun j u h => by
    rw [← hw4, World.cell?_alloc_mark]; simpa using h
  have hk4 : w.heap.size < w4.heap.size := by rw [← hw4]; simp
  have HS := Lib.hid (fun W (hb : Below w4.heap.size w4 W) => (show W.cell? ⟨w.heap.size, 0, none⟩ = some (.int .u64 n0) ∧ W.cell? ⟨w.heap.size, 1, none⟩ = some (.int .u64 m0) ∧ W.cell? ⟨w.heap.size, 2, none⟩ = some (.string a0) ∧ W.cell? ⟨w.heap.size, 3, none⟩ = some (.string b0) ∧ W.cell? ⟨w.heap.size, 4, none⟩ = some (.string c0) ∧ W.cell? ⟨w.heap.size, 5, none⟩ = some (.string d0) ∧ W.cell? ⟨w.heap.size, 6, none⟩ = some (.string e0) ∧ W.cell? ⟨w.heap.size, 7, none⟩ = some (.int .u64 k0) ∧ W.cell? ⟨w.heap.size, 8, none⟩ = some (.slice p0 l0 q0) ∧ W.cell? ⟨w.heap.size, 9, none⟩ = some (.slice p1 l1 q1) ∧ W.cell? ⟨w.heap.size, 10, none⟩ = some (.string s1) ∧ W.cell? ⟨w.heap.size, 11, none⟩ = some (.slice p2 l2 q2) from ⟨(hb.cell (p := ⟨w.heap.size, 0, none⟩) hk4).trans (hc0 0 _ rfl), (hb.cell (p := ⟨w.heap.size, 1, none⟩) hk4).trans (hc0 1 _ rfl), (hb.cell (p := ⟨w.heap.size, 2, none⟩) hk4).trans (hc0 2 _ rfl), (hb.cell (p := ⟨w.heap.size, 3, none⟩) hk4).trans (hc0 3 _ rfl), (hb.cell (p := ⟨w.heap.size, 4, none⟩) hk4).trans (hc0 4 _ rfl), (hb.cell (p := ⟨w.heap.size, 5, none⟩) hk4).trans (hc0 5 _ rfl), (hb.cell (p := ⟨w.heap.size, 6, none⟩) hk4).trans (hc0 6 _ rfl), (hb.cell (p := ⟨w.heap.size, 7, none⟩) hk4).trans (hc0 7 _ rfl), (hb.cell (p := ⟨w.heap.size, 8, none⟩) hk4).trans (hc0 8 _ rfl), (hb.cell (p := ⟨w.heap.size, 9, none⟩) hk4).trans (hc0 9 _ rfl), (hb.cell (p := ⟨w.heap.size, 10, none⟩) hk4).trans (hc0 10 _ rfl), (hb.cell (p := ⟨w.heap.size, 11, none⟩) hk4).trans (hc0 11 _ rfl)⟩))
  rw [hw4]
  clear hw4 hc0
  have b4 : Below w4.heap.size w4 w4.drew := (Below.refl _ _).drew
  refine wp_region_held_drew (S := (fun W => W.cell? ⟨w.heap.size, 0, none⟩ = some (.int .u64 n0) ∧ W.cell? ⟨w.heap.size, 1, none⟩ = some (.int .u64 m0) ∧ W.cell? ⟨w.heap.size, 2, none⟩ = some (.string a0) ∧ W.cell? ⟨w.heap.size, 3, none⟩ = some (.string b0) ∧ W.cell? ⟨w.heap.size, 4, none⟩ = some (.string c0) ∧ W.cell? ⟨w.heap.size, 5, none⟩ = some (.string d0) ∧ W.cell? ⟨w.heap.size, 6, none⟩ = some (.string e0) ∧ W.cell? ⟨w.heap.size, 7, none⟩ = some (.int .u64 k0) ∧ W.cell? ⟨w.heap.size, 8, none⟩ = some (.slice p0 l0 q0) ∧ W.cell? ⟨w.heap.size, 9, none⟩ = some (.slice p1 l1 q1) ∧ W.cell? ⟨w.heap.size, 10, none⟩ = some (.string s1) ∧ W.cell? ⟨w.heap.size, 11, none⟩ = some (.slice p2 l2 q2))) (by kernel_rfl) (HS.out _ b4) (fun hHeld => ?_)
  refine wpAnyH_take (i := 0) (v := ?_) rfl (by kernel_rfl) (by kernel_rfl) (by kernel_rfl) (fun _ _ _ h => h) (.inl ⟨by rfl, ?_⟩) (by assumption) ?_
  rotate_left 1
  · intro w0 hSw
    go_simp <;> with_reducible rfl
  try simp only [Act.put, List.getElem_toArray, List.getElem_cons_zero, List.setIfInBounds_toArray, List.set_cons_zero, List.set_cons_succ]
  refine wpAnyH_take (i := 1) (v := ?_) rfl (by kernel_rfl) (by kernel_rfl) (by kernel_rfl) (fun _ _ _ h => h) (.inl ⟨by rfl, ?_⟩) (by assumption) ?_
  rotate_left 1
  · intro w0 hSw
    obtain ⟨z0, z1, z2, z3, z4, z5, z6, z7, z8, z9, z10, z11⟩ := hSw
    go_simp <;> with_reducible rfl
  try simp only [Act.put, List.getElem_toArray, List.getElem_cons_zero, List.getElem_cons_succ, List.setIfInBounds_toArray, List.set_cons_zero, List.set_cons_succ]
  refine wpAnyH_take (i := 3) (v := ?_) rfl (by kernel_rfl) (by kernel_rfl) (by kernel_rfl) (fun _ _ _ h => h) (.inl ⟨by rfl, ?_⟩) (by assumption) ?_
  rotate_left 1
  · intro w0 hSw
    go_simp <;> with_reducible rfl
  try simp only [Act.put, List.getElem_toArray, List.getElem_cons_zero, List.getElem_cons_succ, List.setIfInBounds_toArray, List.set_cons_zero, List.set_cons_succ]
  refine wpAnyH_take (i := 4) (v := ?_) rfl (by kernel_rfl) (by kernel_rfl) (by kernel_rfl) (fun _ _ _ h => h) (.inl ⟨by rfl, ?_⟩) (by assumption) ?_
  rotate_left 1
  · intro w0 hSw
    obtain ⟨z0, z1, z2, z3, z4, z5, z6, z7, z8, z9, z10, z11⟩ := hSw
    go_simp <;> with_reducible rfl
  try simp only [Act.put, List.getElem_toArray, List.getElem_cons_zero, List.getElem_cons_succ, List.setIfInBounds_toArray, List.set_cons_zero, List.set_cons_succ]
  refine wpAnyH_take (i := 6) (v := ?_) rfl (by kernel_rfl) (by kernel_rfl) (by kernel_rfl) (fun _ _ _ h => h) (.inl ⟨by rfl, ?_⟩) (by assumption) ?_
  rotate_left 1
  · intro w0 hSw
    go_simp <;> with_reducible rfl
  try simp only [Act.put, List.getElem_toArray, List.getElem_cons_zero, List.getElem_cons_succ, List.setIfInBounds_toArray, List.set_cons_zero, List.set_cons_succ]
  refine wpAnyH_take (i := 7) (v := ?_) rfl (by kernel_rfl) (by kernel_rfl) (by kernel_rfl) (fun _ _ _ h => h) (.inl ⟨by rfl, ?_⟩) (by assumption) ?_
  rotate_left 1
  · intro w0 hSw
    obtain ⟨z0, z1, z2, z3, z4, z5, z6, z7, z8, z9, z10, z11⟩ := hSw
    go_simp <;> with_reducible rfl
  try simp only [Act.put, List.getElem_toArray, List.getElem_cons_zero, List.getElem_cons_succ, List.setIfInBounds_toArray, List.set_cons_zero, List.set_cons_succ]
  refine wpAnyH_ready (rs := [2]) (by kernel_rfl) (by simp) ?_
  refine AllReadyH.cons rfl (fun K hK => ?_) AllReadyH.nil
  go_simp
  go_at_call 68
  refine (HT0.out _ (HV0.out.below (HB4.out.trans (b4.mono HB4.out.size)))).mono ?_
  rintro z w5 ⟨x0, y0, v0, rfl, hr0, hb5⟩
  have b5 : Below w4.heap.size w4 w5 := b4.trans (hb5.mono b4.size)
  have HR0_5 := Lib.hid (RIn.mono hr0 b4.size)
  clear hr0
  clear hb5
  refine hK.out _ _ (HS.out _ b5) (fun hHeld => ?_)
  clear hK K
  try simp only [Act.put, List.getElem_toArray, List.getElem_cons_zero, List.getElem_cons_succ, List.setIfInBounds_toArray, List.set_cons_zero, List.set_cons_succ]
  refine wpAnyH_ready (rs := [5]) (by kernel_rfl) (by simp) ?_
  refine AllReadyH.cons rfl (fun K hK => ?_) AllReadyH.nil
  go_simp
  go_at_call 69
  refine (HT1.out _ (HV1.out.below (HB4.out.trans (b5.mono HB4.out.size)))).mono ?_
  rintro z w6 ⟨x1, y1, v1, rfl, hr1, hb6⟩
  have b6 : Below w4.heap.size w4 w6 := b5.trans (hb6.mono b5.size)
  have HR0_6 := Lib.hid (HR0_5.out.below hb6)
  clear HR0_5
  have HR1_6 := Lib.hid (RIn.mono hr1 b5.size)
  clear hr1
  clear hb6
  refine hK.out _ _ (HS.out _ b6) (fun hHeld => ?_)
  clear hK K
  try simp only [Act.put, List.getElem_toArray, List.getElem_cons_zero, List.getElem_cons_succ, List.setIfInBounds_toArray, List.set_cons_zero, List.set_cons_succ]
  refine wpAnyH_ready (rs := [8]) (by kernel_rfl) (by simp) ?_
  refine AllReadyH.cons rfl (fun K hK => ?_) AllReadyH.nil
  go_simp
  go_at_call 70
  refine (HT2.out _ (HV2.out.below (HB4.out.trans (b6.mono HB4.out.size)))).mono ?_
  rintro z w7 ⟨x2, y2, v2, rfl, hr2, hb7⟩
  have b7 : Below w4.heap.size w4 w7 := b6.trans (hb7.mono b6.size)
  have HR0_7 := Lib.hid (HR0_6.out.below hb7)
  have HR1_7 := Lib.hid (HR1_6.out.below hb7)
  clear HR0_6 HR1_6
  have HR2_7 := Lib.hid (RIn.mono hr2 b6.size)
  clear hr2
  clear hb7
  refine hK.out _ _ (HS.out _ b7) (fun hHeld => ?_)
  clear hK K
  try simp only [Act.put, List.getElem_toArray, List.getElem_cons_zero, List.getElem_cons_succ, List.setIfInBounds_toArray, List.set_cons_zero, List.set_cons_succ]
  refine wpAnyH_ready (rs := [9]) (by kernel_rfl) (by simp) ?_
  refine AllReadyH.cons rfl (fun K hK => ?_) AllReadyH.nil
  go_simp
  have hal : ∃ W, w7.alloc (.cells #[.bool true, .string ⟨#[]⟩, .slice x0 y0 v0, .bool true, .string ⟨#[]⟩, .slice x1 y1 v1, .bool true, .string ⟨#[]⟩, .slice x2 y2 v2] 80) = W := ⟨_, rfl⟩
  obtain ⟨w8, hal⟩ := hal
  have hb8 : Below w7.heap.size w7 w8 := by rw [← hal]; exact (Below.refl _ _).alloc (Nat.le_refl _) _
  have b8 : Below w4.heap.size w4 w8 := b7.trans (hb8.mono b7.size)
  have HL_8 := Lib.hid (show RIn w8 w4.heap.size (.slice (some ⟨w7.heap.size, 0, none⟩) 3 3) [itL (lightItems n0 m0 a0 b0 c0 d0 e0 k0 br0), itL (commItems br1 s1), itTs br2] from by
    rw [← hal]
    refine reads_new w7 w4.heap.size 3 [(itL (lightItems n0 m0 a0 b0 c0 d0 e0 k0 br0), .slice x0 y0 v0), (itL (commItems br1 s1), .slice x1 y1 v1), (itTs br2, .slice x2 y2 v2)] rfl b7.size (fun q hq => ?_)
    simp only [List.mem_cons, List.not_mem_nil, or_false] at hq
    rcases hq with rfl | rfl | rfl
    · exact HR0_7.out
    · exact HR1_7.out
    · exact HR2_7.out)
  rw [hal]
  clear hal hb8 HR0_7 HR1_7 HR2_7
  refine hK.out _ _ (HS.out _ b8) (fun hHeld => ?_)
  clear hK K
  try simp only [Act.put, List.getElem_toArray, List.getElem_cons_zero, List.getElem_cons_succ, List.setIfInBounds_toArray, List.set_cons_zero, List.set_cons_succ]
  refine wpAnyH_ready (rs := [10]) (by kernel_rfl) (by simp) ?_
  refine AllReadyH.cons rfl (fun K hK => ?_) AllReadyH.nil
  go_simp
  go_at_call 67
  refine (rlist_any _ _ _ _).mono ?_
  rintro z w9 ⟨rfl, hb9⟩
  have b9 : Below w4.heap.size w4 w9 := b8.trans (hb9.mono b8.size)
  have HL_9 := Lib.hid (HL_8.out.below hb9)
  clear HL_8
  clear hb9
  refine hK.out _ _ (HS.out _ b9) (fun hHeld => ?_)
  clear hK K
  try simp only [Act.put, List.getElem_toArray, List.getElem_cons_zero, List.getElem_cons_succ, List.setIfInBounds_toArray, List.set_cons_zero, List.set_cons_succ]
  refine wpAnyH_ready (rs := [11]) (by kernel_rfl) (by simp) ?_
  refine AllReadyH.cons rfl (fun K hK => ?_) AllReadyH.nil
  go_simp
  go_at_call 66
  refine (HE.out _ _ _ HL_9.out).mono ?_
  rintro z w10 ⟨rfl, hb10⟩
  have b10 : Below w4.heap.size w4 w10 := b9.trans (hb10.mono b9.size)
  have HL_10 := Lib.hid (HL_9.out.below hb10)
  clear HL_9
  clear hb10
  refine hK.out _ _ (HS.out _ b10) (fun hHeld => ?_)
  clear hK K
  try simp only [Act.put, List.getElem_toArray, List.getElem_cons_zero, List.getElem_cons_succ, List.setIfInBounds_toArray, List.set_cons_zero, List.set_cons_succ]
  refine wpAnyH_take (i := 12) (v := ?_) rfl (by kernel_rfl) (by kernel_rfl) (by kernel_rfl) (fun _ _ _ h => h) (.inl ⟨by rfl, ?_⟩) (by assumption) ?_
  rotate_left 1
  · intro w0 hSw
    go_simp <;> with_reducible rfl
  try simp only [Act.put, List.getElem_toArray, List.getElem_cons_zero, List.getElem_cons_succ, List.setIfInBounds_toArray, List.set_cons_zero, List.set_cons_succ]
  refine wpAnyH_take (i := 13) (v := ?_) rfl (by kernel_rfl) (by kernel_rfl) (by kernel_rfl) (fun _ _ _ h => h) (.inl ⟨by rfl, ?_⟩) (by assumption) ?_
  rotate_left 1
  · intro w0 hSw
    go_simp <;> with_reducible rfl
  try simp only [Act.put, List.getElem_toArray, List.getElem_cons_zero, List.getElem_cons_succ, List.setIfInBounds_toArray, List.set_cons_zero, List.set_cons_succ]
  refine wpAnyH_take (i := 14) (v := ?_) rfl (by kernel_rfl) (by kernel_rfl) (by kernel_rfl) (fun _ _ _ h => h) (.inl ⟨by rfl, ?_⟩) (by assumption) ?_
  rotate_left 1
  · intro w0 hSw
    go_simp <;> with_reducible rfl
  try simp only [Act.put, List.getElem_toArray, List.getElem_cons_zero, List.getElem_cons_succ, List.setIfInBounds_toArray, List.set_cons_zero, List.set_cons_succ]
  refine wpAnyH_take (i := 15) (v := ?_) rfl (by kernel_rfl) (by kernel_rfl) (by kernel_rfl) (fun _ _ _ h => h) (.inl ⟨by rfl, ?_⟩) (by assumption) ?_
  rotate_left 1
  · intro w0 hSw
    go_simp <;> with_reducible rfl
  try simp only [Act.put, List.getElem_toArray, List.getElem_cons_zero, List.getElem_cons_succ, List.setIfInBounds_toArray, List.set_cons_zero, List.set_cons_succ]
  refine wpAnyH_done (by kernel_rfl) ?_ 0
  go_wp2
  go_ret2
  exact ⟨rfl, HB4.out.trans (b10.mono HB4.out.size)⟩
end Go.Proofs.YtfbopnebfdkhdaaDoor
/- Contracts of head.Bytes, pharosref13.Bytes. -/
namespace Go.Proofs.YtfbopnebfdkhdaaDoor
open Go.RowKit Go.Shelf Go.Lib
attribute [local go_sem] Oper.semAt_some

/-- an Update's items -/
def updItems (n0 m0 : Nat) (a0 b0 c0 d0 e0 : ByteArray) (k0 : Nat) (br0 : List ByteArray) (br1 : List ByteArray) (s1 : ByteArray) (br2 : List ByteArray) (n3 m3 : Nat) (a3 b3 c3 d3 e3 : ByteArray) (k3 : Nat) (br3 : List ByteArray) (br4 : List ByteArray) (n5 : Nat) (s6 : ByteArray) (n7 : Nat) : List Item := [itL (lightItems n0 m0 a0 b0 c0 d0 e0 k0 br0), itL (commItems br1 s1), itTs br2, itL (lightItems n3 m3 a3 b3 c3 d3 e3 k3 br3), itTs br4, itN n5, itT s6, itN n7]
set_option maxRecDepth 100000 in
set_option maxHeartbeats 20000000 in
theorem itUpd_any (n0 m0 : Nat) (a0 b0 c0 d0 e0 : ByteArray) (k0 : Nat) (p0 : Option Addr) (l0 q0 : Nat) (br0 : List ByteArray) (p1 : Option Addr) (l1 q1 : Nat) (br1 : List ByteArray) (s1 : ByteArray) (p2 : Option Addr) (l2 q2 : Nat) (br2 : List ByteArray) (n3 m3 : Nat) (a3 b3 c3 d3 e3 : ByteArray) (k3 : Nat) (p3 : Option Addr) (l3 q3 : Nat) (br3 : List ByteArray) (p4 : Option Addr) (l4 q4 : Nat) (br4 : List ByteArray) (n5 : Nat) (s6 : ByteArray) (n7 : Nat) (w : World) (hn0 : n0 < 18446744073709551616) (hm0 : m0 < 18446744073709551616) (hk0 : k0 < 18446744073709551616) (hv0 : Strs w (.slice p0 l0 q0) br0) (hN0 : br0.length ≤ 1048576) (hv1 : Strs w (.slice p1 l1 q1) br1) (hN1 : br1.length ≤ 1048576) (hv2 : Strs w (.slice p2 l2 q2) br2) (hN2 : br2.length ≤ 1048576) (hn3 : n3 < 18446744073709551616) (hm3 : m3 < 18446744073709551616) (hk3 : k3 < 18446744073709551616) (hv3 : Strs w (.slice p3 l3 q3) br3) (hN3 : br3.length ≤ 1048576) (hv4 : Strs w (.slice p4 l4 q4) br4) (hN4 : br4.length ≤ 1048576) (hn5 : n5 < 18446744073709551616) (hn7 : n7 < 18446744073709551616) (hw : (itL (updItems n0 m0 a0 b0 c0 d0 e0 k0 br0 br1 s1 br2 n3 m3 a3 b3 c3 d3 e3 k3 br3 br4 n5 s6 n7)).weight ≤ 1073741824) :
    Calls Tryd.prog 31 #[.agg #[.int .u64 n0, .int .u64 m0, .string a0, .string b0, .string c0, .string d0, .string e0, .int .u64 k0, .slice p0 l0 q0, .slice p1 l1 q1, .string s1, .slice p2 l2 q2, .int .u64 n3, .int .u64 m3, .string a3, .string b3, .string c3, .string d3, .string e3, .int .u64 k3, .slice p3 l3 q3, .slice p4 l4 q4, .int .u64 n5, .string s6, .int .u64 n7]] w fun z w' => z = .returned (encodeV (itL (updItems n0 m0 a0 b0 c0 d0 e0 k0 br0 br1 s1 br2 n3 m3 a3 b3 c3 d3 e3 k3 br3 br4 n5 s6 n7))) ∧ Below w.heap.size w w' := by
  have he := fun lo v W (h : RIn W lo v (updItems n0 m0 a0 b0 c0 d0 e0 k0 br0 br1 s1 br2 n3 m3 a3 b3 c3 d3 e3 k3 br3 br4 n5 s6 n7)) => encode_any (itL (updItems n0 m0 a0 b0 c0 d0 e0 k0 br0 br1 s1 br2 n3 m3 a3 b3 c3 d3 e3 k3 br3 br4 n5 s6 n7)) v W (by have := size_weight (itL (updItems n0 m0 a0 b0 c0 d0 e0 k0 br0 br1 s1 br2 n3 m3 a3 b3 c3 d3 e3 k3 br3 br4 n5 s6 n7)); omega) (by have := put_weight (itL (updItems n0 m0 a0 b0 c0 d0 e0 k0 br0 br1 s1 br2 n3 m3 a3 b3 c3 d3 e3 k3 br3 br4 n5 s6 n7)); omega) h.reads
  unfold encodeV at he ⊢
  obtain ⟨r1, hr1⟩ : ∃ r : ByteArray, ⟨(encode (itL (updItems n0 m0 a0 b0 c0 d0 e0 k0 br0 br1 s1 br2 n3 m3 a3 b3 c3 d3 e3 k3 br3 br4 n5 s6 n7))).1.toArray⟩ = r := ⟨_, rfl⟩
  obtain ⟨r2, hr2⟩ : ∃ r, (encode (itL (updItems n0 m0 a0 b0 c0 d0 e0 k0 br0 br1 s1 br2 n3 m3 a3 b3 c3 d3 e3 k3 br3 br4 n5 s6 n7))).2 = r := ⟨_, rfl⟩
  rw [hr1, hr2] at he ⊢
  have HE := Lib.hid he
  have HT0 := Lib.hid (fun W (h : Strs W (.slice p0 l0 q0) br0) => itLight_any n0 m0 a0 b0 c0 d0 e0 k0 (.slice p0 l0 q0) br0 W hn0 hm0 hk0 h hN0)
  have HV0 := Lib.hid hv0
  have HT1 := Lib.hid (fun W (h : Strs W (.slice p1 l1 q1) br1) => itComm_any (.slice p1 l1 q1) br1 s1 W h hN1)
  have HV1 := Lib.hid hv1
  have HT2 := Lib.hid (fun W (h : Strs W (.slice p2 l2 q2) br2) => itTexts_any (.slice p2 l2 q2) br2 W h hN2)
  have HV2 := Lib.hid hv2
  have HT3 := Lib.hid (fun W (h : Strs W (.slice p3 l3 q3) br3) => itLight_any n3 m3 a3 b3 c3 d3 e3 k3 (.slice p3 l3 q3) br3 W hn3 hm3 hk3 h hN3)
  have HV3 := Lib.hid hv3
  have HT4 := Lib.hid (fun W (h : Strs W (.slice p4 l4 q4) br4) => itTexts_any (.slice p4 l4 q4) br4 W h hN4)
  have HV4 := Lib.hid hv4
  have HT5 := Lib.hid (fun W => itNumber_any n5 W hn5)
  have HT7 := Lib.hid (fun W => itNumber_any n7 W hn7)
  clear he hr1 hr2 hw hn0 hm0 hk0 hv0 hN0 hv1 hN1 hv2 hN2 hn3 hm3 hk3 hv3 hN3 hv4 hN4 hn5 hn7
  go_enter Tryd.func31, Tryd.ntmps31
  go_wp2_with fail
  obtain ⟨w4, hw4⟩ : ∃ w4, w.alloc (.cells #[.int .u64 n0, .int .u64 m0, .string a0, .string b0, .string c0, .string d0, .string e0, .int .u64 k0, .slice p0 l0 q0, .slice p1 l1 q1, .string s1, .slice p2 l2 q2, .int .u64 n3, .int .u64 m3, .string a3, .string b3, .string c3, .string d3, .string e3, .int .u64 k3, .slice p3 l3 q3, .slice p4 l4 q4, .int .u64 n5, .string s6, .int .u64 n7] 52) = w4 := ⟨_, rfl⟩
  have HB4 := Lib.hid (show Below w.heap.size w w4 from by rw [← hw4]; exact laid1 w _)
  have hc0 : ∀ j u, [Value.int .u64 n0, .int .u64 m0, .string a0, .string b0, .string c0, .string d0, .string e0, .int .u64 k0, .slice p0 l0 q0, .slice p1 l1 q1, .string s1, .slice p2 l2 q2, .int .u64 n3, .int .u64 m3, .string a3, .string b3, .string c3, .string d3, .string e3, .int .u64 k3, .slice p3 l3 q3, .slice p4 l4 q4, .int .u64 n5, .string s6, .int .u64 n7][j]? = some u → w4.cell? ⟨w.heap.size, j, none⟩ = some u := fun j u h => by
    rw [← hw4, World.cell?_alloc_mark]; simpa using h
  have hk4 : w.heap.size < w4.heap.size := by rw [← hw4]; simp
  have HS := Lib.hid (fun W (hb : Below w4.heap.size w4 W) => (show W.cell? ⟨w.heap.size, 0, none⟩ = some (.int .u64 n0) ∧ W.cell? ⟨w.heap.size, 1, none⟩ = some (.int .u64 m0) ∧ W.cell? ⟨w.heap.size, 2, none⟩ = some (.string a0) ∧ W.cell? ⟨w.heap.size, 3, none⟩ = some (.string b0) ∧ W.cell? ⟨w.heap.size, 4, none⟩ = some (.string c0) ∧ W.cell? ⟨w.heap.size, 5, none⟩ = some (.string d0) ∧ W.cell? ⟨w.heap.size, 6, none⟩ = some (.string e0) ∧ W.cell? ⟨w.heap.size, 7, none⟩ = some (.int .u64 k0) ∧ W.cell? ⟨w.heap.size, 8, none⟩ = some (.slice p0 l0 q0) ∧ W.cell? ⟨w.heap.size, 9, none⟩ = some (.slice p1 l1 q1) ∧ W.cell? ⟨w.heap.size, 10, none⟩ = some (.string s1) ∧ W.cell? ⟨w.heap.size, 11, none⟩ = some (.slice p2 l2 q2) ∧ W.cell? ⟨w.heap.size, 12, none⟩ = some (.int .u64 n3) ∧ W.cell? ⟨w.heap.size, 13, none⟩ = some (.int .u64 m3) ∧ W.cell? ⟨w.heap.size, 14, none⟩ = some (.string a3) ∧ W.cell? ⟨w.heap.size, 15, none⟩ = some (.string b3) ∧ W.cell? ⟨w.heap.size, 16, none⟩ = some (.string c3) ∧ W.cell? ⟨w.heap.size, 17, none⟩ = some (.string d3) ∧ W.cell? ⟨w.heap.size, 18, none⟩ = some (.string e3) ∧ W.cell? ⟨w.heap.size, 19, none⟩ = some (.int .u64 k3) ∧ W.cell? ⟨w.heap.size, 20, none⟩ = some (.slice p3 l3 q3) ∧ W.cell? ⟨w.heap.size, 21, none⟩ = some (.slice p4 l4 q4) ∧ W.cell? ⟨w.heap.size, 22, none⟩ = some (.int .u64 n5) ∧ W.cell? ⟨w.heap.size, 23, none⟩ = some (.string s6) ∧ W.cell? ⟨w.heap.size, 24, none⟩ = some (.int .u64 n7) from ⟨(hb.cell (p := ⟨w.heap.size, 0, none⟩) hk4).trans (hc0 0 _ rfl), (hb.cell (p := ⟨w.heap.size, 1, none⟩) hk4).trans (hc0 1 _ rfl), (hb.cell (p := ⟨w.heap.size, 2, none⟩) hk4).trans (hc0 2 _ rfl), (hb.cell (p := ⟨w.heap.size, 3, none⟩) hk4).trans (hc0 3 _ rfl), (hb.cell (p := ⟨w.heap.size, 4, none⟩) hk4).trans (hc0 4 _ rfl), (hb.cell (p := ⟨w.heap.size, 5, none⟩) hk4).trans (hc0 5 _ rfl), (hb.cell (p := ⟨w.heap.size, 6, none⟩) hk4).trans (hc0 6 _ rfl), (hb.cell (p := ⟨w.heap.size, 7, none⟩) hk4).trans (hc0 7 _ rfl), (hb.cell (p := ⟨w.heap.size, 8, none⟩) hk4).trans (hc0 8 _ rfl), (hb.cell (p := ⟨w.heap.size, 9, none⟩) hk4).trans (hc0 9 _ rfl), (hb.cell (p := ⟨w.heap.size, 10, none⟩) hk4).trans (hc0 10 _ rfl), (hb.cell (p := ⟨w.heap.size, 11, none⟩) hk4).trans (hc0 11 _ rfl), (hb.cell (p := ⟨w.heap.size, 12, none⟩) hk4).trans (hc0 12 _ rfl), (hb.cell (p := ⟨w.heap.size, 13, none⟩) hk4).trans (hc0 13 _ rfl), (hb.cell (p := ⟨w.heap.size, 14, none⟩) hk4).trans (hc0 14 _ rfl), (hb.cell (p := ⟨w.heap.size, 15, none⟩) hk4).trans (hc0 15 _ rfl), (hb.cell (p := ⟨w.heap.size, 16, none⟩) hk4).trans (hc0 16 _ rfl), (hb.cell (p := ⟨w.heap.size, 17, none⟩) hk4).trans (hc0 17 _ rfl), (hb.cell (p := ⟨w.heap.size, 18, none⟩) hk4).trans (hc0 18 _ rfl), (hb.cell (p := ⟨w.heap.size, 19, none⟩) hk4).trans (hc0 19 _ rfl), (hb.cell (p := ⟨w.heap.size, 20, none⟩) hk4).trans (hc0 20 _ rfl), (hb.cell (p := ⟨w.heap.size, 21, none⟩) hk4).trans (hc0 21 _ rfl), (hb.cell (p := ⟨w.heap.size, 22, none⟩) hk4).trans (hc0 22 _ rfl), (hb.cell (p := ⟨w.heap.size, 23, none⟩) hk4).trans (hc0 23 _ rfl), (hb.cell (p := ⟨w.heap.size, 24, none⟩) hk4).trans (hc0 24 _ rfl)⟩))
  rw [hw4]
  clear hw4 hc0
  have b4 : Below w4.heap.size w4 w4.drew := (Below.refl _ _).drew
  refine wp_region_held_drew (S := (fun W => W.cell? ⟨w.heap.size, 0, none⟩ = some (.int .u64 n0) ∧ W.cell? ⟨w.heap.size, 1, none⟩ = some (.int .u64 m0) ∧ W.cell? ⟨w.heap.size, 2, none⟩ = some (.string a0) ∧ W.cell? ⟨w.heap.size, 3, none⟩ = some (.string b0) ∧ W.cell? ⟨w.heap.size, 4, none⟩ = some (.string c0) ∧ W.cell? ⟨w.heap.size, 5, none⟩ = some (.string d0) ∧ W.cell? ⟨w.heap.size, 6, none⟩ = some (.string e0) ∧ W.cell? ⟨w.heap.size, 7, none⟩ = some (.int .u64 k0) ∧ W.cell? ⟨w.heap.size, 8, none⟩ = some (.slice p0 l0 q0) ∧ W.cell? ⟨w.heap.size, 9, none⟩ = some (.slice p1 l1 q1) ∧ W.cell? ⟨w.heap.size, 10, none⟩ = some (.string s1) ∧ W.cell? ⟨w.heap.size, 11, none⟩ = some (.slice p2 l2 q2) ∧ W.cell? ⟨w.heap.size, 12, none⟩ = some (.int .u64 n3) ∧ W.cell? ⟨w.heap.size, 13, none⟩ = some (.int .u64 m3) ∧ W.cell? ⟨w.heap.size, 14, none⟩ = some (.string a3) ∧ W.cell? ⟨w.heap.size, 15, none⟩ = some (.string b3) ∧ W.cell? ⟨w.heap.size, 16, none⟩ = some (.string c3) ∧ W.cell? ⟨w.heap.size, 17, none⟩ = some (.string d3) ∧ W.cell? ⟨w.heap.size, 18, none⟩ = some (.string e3) ∧ W.cell? ⟨w.heap.size, 19, none⟩ = some (.int .u64 k3) ∧ W.cell? ⟨w.heap.size, 20, none⟩ = some (.slice p3 l3 q3) ∧ W.cell? ⟨w.heap.size, 21, none⟩ = some (.slice p4 l4 q4) ∧ W.cell? ⟨w.heap.size, 22, none⟩ = some (.int .u64 n5) ∧ W.cell? ⟨w.heap.size, 23, none⟩ = some (.string s6) ∧ W.cell? ⟨w.heap.size, 24, none⟩ = some (.int .u64 n7))) (by kernel_rfl) (HS.out _ b4) (fun hHeld => ?_)
  refine wpAnyH_take (i := 0) (v := ?_) rfl (by kernel_rfl) (by kernel_rfl) (by kernel_rfl) (fun _ _ _ h => h) (.inl ⟨by rfl, ?_⟩) (by assumption) ?_
  rotate_left 1
  · intro w0 hSw
    go_simp <;> with_reducible rfl
  try simp only [Act.put, List.getElem_toArray, List.getElem_cons_zero, List.setIfInBounds_toArray, List.set_cons_zero, List.set_cons_succ]
  refine wpAnyH_take (i := 1) (v := ?_) rfl (by kernel_rfl) (by kernel_rfl) (by kernel_rfl) (fun _ _ _ h => h) (.inl ⟨by rfl, ?_⟩) (by assumption) ?_
  rotate_left 1
  · intro w0 hSw
    obtain ⟨z0, z1, z2, z3, z4, z5, z6, z7, z8, z9, z10, z11, z12, z13, z14, z15, z16, z17, z18, z19, z20, z21, z22, z23, z24⟩ := hSw
    go_simp <;> with_reducible rfl
  try simp only [Act.put, List.getElem_toArray, List.getElem_cons_zero, List.getElem_cons_succ, List.setIfInBounds_toArray, List.set_cons_zero, List.set_cons_succ]
  refine wpAnyH_take (i := 3) (v := ?_) rfl (by kernel_rfl) (by kernel_rfl) (by kernel_rfl) (fun _ _ _ h => h) (.inl ⟨by rfl, ?_⟩) (by assumption) ?_
  rotate_left 1
  · intro w0 hSw
    go_simp <;> with_reducible rfl
  try simp only [Act.put, List.getElem_toArray, List.getElem_cons_zero, List.getElem_cons_succ, List.setIfInBounds_toArray, List.set_cons_zero, List.set_cons_succ]
  refine wpAnyH_take (i := 4) (v := ?_) rfl (by kernel_rfl) (by kernel_rfl) (by kernel_rfl) (fun _ _ _ h => h) (.inl ⟨by rfl, ?_⟩) (by assumption) ?_
  rotate_left 1
  · intro w0 hSw
    obtain ⟨z0, z1, z2, z3, z4, z5, z6, z7, z8, z9, z10, z11, z12, z13, z14, z15, z16, z17, z18, z19, z20, z21, z22, z23, z24⟩ := hSw
    go_simp <;> with_reducible rfl
  try simp only [Act.put, List.getElem_toArray, List.getElem_cons_zero, List.getElem_cons_succ, List.setIfInBounds_toArray, List.set_cons_zero, List.set_cons_succ]
  refine wpAnyH_take (i := 6) (v := ?_) rfl (by kernel_rfl) (by kernel_rfl) (by kernel_rfl) (fun _ _ _ h => h) (.inl ⟨by rfl, ?_⟩) (by assumption) ?_
  rotate_left 1
  · intro w0 hSw
    go_simp <;> with_reducible rfl
  try simp only [Act.put, List.getElem_toArray, List.getElem_cons_zero, List.getElem_cons_succ, List.setIfInBounds_toArray, List.set_cons_zero, List.set_cons_succ]
  refine wpAnyH_take (i := 7) (v := ?_) rfl (by kernel_rfl) (by kernel_rfl) (by kernel_rfl) (fun _ _ _ h => h) (.inl ⟨by rfl, ?_⟩) (by assumption) ?_
  rotate_left 1
  · intro w0 hSw
    obtain ⟨z0, z1, z2, z3, z4, z5, z6, z7, z8, z9, z10, z11, z12, z13, z14, z15, z16, z17, z18, z19, z20, z21, z22, z23, z24⟩ := hSw
    go_simp <;> with_reducible rfl
  try simp only [Act.put, List.getElem_toArray, List.getElem_cons_zero, List.getElem_cons_succ, List.setIfInBounds_toArray, List.set_cons_zero, List.set_cons_succ]
  refine wpAnyH_take (i := 9) (v := ?_) rfl (by kernel_rfl) (by kernel_rfl) (by kernel_rfl) (fun _ _ _ h => h) (.inl ⟨by rfl, ?_⟩) (by assumption) ?_
  rotate_left 1
  · intro w0 hSw
    go_simp <;> with_reducible rfl
  try simp only [Act.put, List.getElem_toArray, List.getElem_cons_zero, List.getElem_cons_succ, List.setIfInBounds_toArray, List.set_cons_zero, List.set_cons_succ]
  refine wpAnyH_take (i := 10) (v := ?_) rfl (by kernel_rfl) (by kernel_rfl) (by kernel_rfl) (fun _ _ _ h => h) (.inl ⟨by rfl, ?_⟩) (by assumption) ?_
  rotate_left 1
  · intro w0 hSw
    obtain ⟨z0, z1, z2, z3, z4, z5, z6, z7, z8, z9, z10, z11, z12, z13, z14, z15, z16, z17, z18, z19, z20, z21, z22, z23, z24⟩ := hSw
    go_simp <;> with_reducible rfl
  try simp only [Act.put, List.getElem_toArray, List.getElem_cons_zero, List.getElem_cons_succ, List.setIfInBounds_toArray, List.set_cons_zero, List.set_cons_succ]
  refine wpAnyH_take (i := 12) (v := ?_) rfl (by kernel_rfl) (by kernel_rfl) (by kernel_rfl) (fun _ _ _ h => h) (.inl ⟨by rfl, ?_⟩) (by assumption) ?_
  rotate_left 1
  · intro w0 hSw
    go_simp <;> with_reducible rfl
  try simp only [Act.put, List.getElem_toArray, List.getElem_cons_zero, List.getElem_cons_succ, List.setIfInBounds_toArray, List.set_cons_zero, List.set_cons_succ]
  refine wpAnyH_take (i := 13) (v := ?_) rfl (by kernel_rfl) (by kernel_rfl) (by kernel_rfl) (fun _ _ _ h => h) (.inl ⟨by rfl, ?_⟩) (by assumption) ?_
  rotate_left 1
  · intro w0 hSw
    obtain ⟨z0, z1, z2, z3, z4, z5, z6, z7, z8, z9, z10, z11, z12, z13, z14, z15, z16, z17, z18, z19, z20, z21, z22, z23, z24⟩ := hSw
    go_simp <;> with_reducible rfl
  try simp only [Act.put, List.getElem_toArray, List.getElem_cons_zero, List.getElem_cons_succ, List.setIfInBounds_toArray, List.set_cons_zero, List.set_cons_succ]
  refine wpAnyH_take (i := 15) (v := ?_) rfl (by kernel_rfl) (by kernel_rfl) (by kernel_rfl) (fun _ _ _ h => h) (.inl ⟨by rfl, ?_⟩) (by assumption) ?_
  rotate_left 1
  · intro w0 hSw
    go_simp <;> with_reducible rfl
  try simp only [Act.put, List.getElem_toArray, List.getElem_cons_zero, List.getElem_cons_succ, List.setIfInBounds_toArray, List.set_cons_zero, List.set_cons_succ]
  refine wpAnyH_take (i := 16) (v := ?_) rfl (by kernel_rfl) (by kernel_rfl) (by kernel_rfl) (fun _ _ _ h => h) (.inl ⟨by rfl, ?_⟩) (by assumption) ?_
  rotate_left 1
  · intro w0 hSw
    obtain ⟨z0, z1, z2, z3, z4, z5, z6, z7, z8, z9, z10, z11, z12, z13, z14, z15, z16, z17, z18, z19, z20, z21, z22, z23, z24⟩ := hSw
    go_simp <;> with_reducible rfl
  try simp only [Act.put, List.getElem_toArray, List.getElem_cons_zero, List.getElem_cons_succ, List.setIfInBounds_toArray, List.set_cons_zero, List.set_cons_succ]
  refine wpAnyH_take (i := 18) (v := ?_) rfl (by kernel_rfl) (by kernel_rfl) (by kernel_rfl) (fun _ _ _ h => h) (.inl ⟨by rfl, ?_⟩) (by assumption) ?_
  rotate_left 1
  · intro w0 hSw
    go_simp <;> with_reducible rfl
  try simp only [Act.put, List.getElem_toArray, List.getElem_cons_zero, List.getElem_cons_succ, List.setIfInBounds_toArray, List.set_cons_zero, List.set_cons_succ]
  refine wpAnyH_take (i := 19) (v := ?_) rfl (by kernel_rfl) (by kernel_rfl) (by kernel_rfl) (fun _ _ _ h => h) (.inl ⟨by rfl, ?_⟩) (by assumption) ?_
  rotate_left 1
  · intro w0 hSw
    obtain ⟨z0, z1, z2, z3, z4, z5, z6, z7, z8, z9, z10, z11, z12, z13, z14, z15, z16, z17, z18, z19, z20, z21, z22, z23, z24⟩ := hSw
    go_simp <;> with_reducible rfl
  try simp only [Act.put, List.getElem_toArray, List.getElem_cons_zero, List.getElem_cons_succ, List.setIfInBounds_toArray, List.set_cons_zero, List.set_cons_succ]
  refine wpAnyH_take (i := 21) (v := ?_) rfl (by kernel_rfl) (by kernel_rfl) (by kernel_rfl) (fun _ _ _ h => h) (.inl ⟨by rfl, ?_⟩) (by assumption) ?_
  rotate_left 1
  · intro w0 hSw
    go_simp <;> with_reducible rfl
  try simp only [Act.put, List.getElem_toArray, List.getElem_cons_zero, List.getElem_cons_succ, List.setIfInBounds_toArray, List.set_cons_zero, List.set_cons_succ]
  refine wpAnyH_take (i := 22) (v := ?_) rfl (by kernel_rfl) (by kernel_rfl) (by kernel_rfl) (fun _ _ _ h => h) (.inl ⟨by rfl, ?_⟩) (by assumption) ?_
  rotate_left 1
  · intro w0 hSw
    obtain ⟨z0, z1, z2, z3, z4, z5, z6, z7, z8, z9, z10, z11, z12, z13, z14, z15, z16, z17, z18, z19, z20, z21, z22, z23, z24⟩ := hSw
    go_simp <;> with_reducible rfl
  try simp only [Act.put, List.getElem_toArray, List.getElem_cons_zero, List.getElem_cons_succ, List.setIfInBounds_toArray, List.set_cons_zero, List.set_cons_succ]
  refine wpAnyH_ready (rs := [2]) (by kernel_rfl) (by simp) ?_
  refine AllReadyH.cons rfl (fun K hK => ?_) AllReadyH.nil
  go_simp
  go_at_call 63
  refine (HT0.out _ (HV0.out.below (HB4.out.trans (b4.mono HB4.out.size)))).mono ?_
  rintro z w5 ⟨x0, y0, v0, rfl, hr0, hb5⟩
  have b5 : Below w4.heap.size w4 w5 := b4.trans (hb5.mono b4.size)
  have HR0_5 := Lib.hid (RIn.mono hr0 b4.size)
  clear hr0
  clear hb5
  refine hK.out _ _ (HS.out _ b5) (fun hHeld => ?_)
  clear hK K
  try simp only [Act.put, List.getElem_toArray, List.getElem_cons_zero, List.getElem_cons_succ, List.setIfInBounds_toArray, List.set_cons_zero, List.set_cons_succ]
  refine wpAnyH_ready (rs := [5]) (by kernel_rfl) (by simp) ?_
  refine AllReadyH.cons rfl (fun K hK => ?_) AllReadyH.nil
  go_simp
  go_at_call 64
  refine (HT1.out _ (HV1.out.below (HB4.out.trans (b5.mono HB4.out.size)))).mono ?_
  rintro z w6 ⟨x1, y1, v1, rfl, hr1, hb6⟩
  have b6 : Below w4.heap.size w4 w6 := b5.trans (hb6.mono b5.size)
  have HR0_6 := Lib.hid (HR0_5.out.below hb6)
  clear HR0_5
  have HR1_6 := Lib.hid (RIn.mono hr1 b5.size)
  clear hr1
  clear hb6
  refine hK.out _ _ (HS.out _ b6) (fun hHeld => ?_)
  clear hK K
  try simp only [Act.put, List.getElem_toArray, List.getElem_cons_zero, List.getElem_cons_succ, List.setIfInBounds_toArray, List.set_cons_zero, List.set_cons_succ]
  refine wpAnyH_ready (rs := [8]) (by kernel_rfl) (by simp) ?_
  refine AllReadyH.cons rfl (fun K hK => ?_) AllReadyH.nil
  go_simp
  go_at_call 65
  refine (HT2.out _ (HV2.out.below (HB4.out.trans (b6.mono HB4.out.size)))).mono ?_
  rintro z w7 ⟨x2, y2, v2, rfl, hr2, hb7⟩
  have b7 : Below w4.heap.size w4 w7 := b6.trans (hb7.mono b6.size)
  have HR0_7 := Lib.hid (HR0_6.out.below hb7)
  have HR1_7 := Lib.hid (HR1_6.out.below hb7)
  clear HR0_6 HR1_6
  have HR2_7 := Lib.hid (RIn.mono hr2 b6.size)
  clear hr2
  clear hb7
  refine hK.out _ _ (HS.out _ b7) (fun hHeld => ?_)
  clear hK K
  try simp only [Act.put, List.getElem_toArray, List.getElem_cons_zero, List.getElem_cons_succ, List.setIfInBounds_toArray, List.set_cons_zero, List.set_cons_succ]
  refine wpAnyH_ready (rs := [11]) (by kernel_rfl) (by simp) ?_
  refine AllReadyH.cons rfl (fun K hK => ?_) AllReadyH.nil
  go_simp
  go_at_call 63
  refine (HT3.out _ (HV3.out.below (HB4.out.trans (b7.mono HB4.out.size)))).mono ?_
  rintro z w8 ⟨x3, y3, v3, rfl, hr3, hb8⟩
  have b8 : Below w4.heap.size w4 w8 := b7.trans (hb8.mono b7.size)
  have HR0_8 := Lib.hid (HR0_7.out.below hb8)
  have HR1_8 := Lib.hid (HR1_7.out.below hb8)
  have HR2_8 := Lib.hid (HR2_7.out.below hb8)
  clear HR0_7 HR1_7 HR2_7
  have HR3_8 := Lib.hid (RIn.mono hr3 b7.size)
  clear hr3
  clear hb8
  refine hK.out _ _ (HS.out _ b8) (fun hHeld => ?_)
  clear hK K
  try simp only [Act.put, List.getElem_toArray, List.getElem_cons_zero, List.getElem_cons_succ, List.setIfInBounds_toArray, List.set_cons_zero, List.set_cons_succ]
  refine wpAnyH_ready (rs := [14]) (by kernel_rfl) (by simp) ?_
  refine AllReadyH.cons rfl (fun K hK => ?_) AllReadyH.nil
  go_simp
  go_at_call 65
  refine (HT4.out _ (HV4.out.below (HB4.out.trans (b8.mono HB4.out.size)))).mono ?_
  rintro z w9 ⟨x4, y4, v4, rfl, hr4, hb9⟩
  have b9 : Below w4.heap.size w4 w9 := b8.trans (hb9.mono b8.size)
  have HR0_9 := Lib.hid (HR0_8.out.below hb9)
  have HR1_9 := Lib.hid (HR1_8.out.below hb9)
  have HR2_9 := Lib.hid (HR2_8.out.below hb9)
  have HR3_9 := Lib.hid (HR3_8.out.below hb9)
  clear HR0_8 HR1_8 HR2_8 HR3_8
  have HR4_9 := Lib.hid (RIn.mono hr4 b8.size)
  clear hr4
  clear hb9
  refine hK.out _ _ (HS.out _ b9) (fun hHeld => ?_)
  clear hK K
  try simp only [Act.put, List.getElem_toArray, List.getElem_cons_zero, List.getElem_cons_succ, List.setIfInBounds_toArray, List.set_cons_zero, List.set_cons_succ]
  refine wpAnyH_ready (rs := [17]) (by kernel_rfl) (by simp) ?_
  refine AllReadyH.cons rfl (fun K hK => ?_) AllReadyH.nil
  go_simp
  go_at_call 71
  refine (HT5.out _).mono ?_
  rintro z w10 ⟨rfl, hb10⟩
  have b10 : Below w4.heap.size w4 w10 := b9.trans (hb10.mono b9.size)
  have HR0_10 := Lib.hid (HR0_9.out.below hb10)
  have HR1_10 := Lib.hid (HR1_9.out.below hb10)
  have HR2_10 := Lib.hid (HR2_9.out.below hb10)
  have HR3_10 := Lib.hid (HR3_9.out.below hb10)
  have HR4_10 := Lib.hid (HR4_9.out.below hb10)
  clear HR0_9 HR1_9 HR2_9 HR3_9 HR4_9
  clear hb10
  refine hK.out _ _ (HS.out _ b10) (fun hHeld => ?_)
  clear hK K
  try simp only [Act.put, List.getElem_toArray, List.getElem_cons_zero, List.getElem_cons_succ, List.setIfInBounds_toArray, List.set_cons_zero, List.set_cons_succ]
  refine wpAnyH_ready (rs := [20]) (by kernel_rfl) (by simp) ?_
  refine AllReadyH.cons rfl (fun K hK => ?_) AllReadyH.nil
  go_simp
  go_at_call 72
  refine (text_any s6 _).mono ?_
  rintro z w11 ⟨rfl, hb11⟩
  have b11 : Below w4.heap.size w4 w11 := b10.trans (hb11.mono b10.size)
  have HR0_11 := Lib.hid (HR0_10.out.below hb11)
  have HR1_11 := Lib.hid (HR1_10.out.below hb11)
  have HR2_11 := Lib.hid (HR2_10.out.below hb11)
  have HR3_11 := Lib.hid (HR3_10.out.below hb11)
  have HR4_11 := Lib.hid (HR4_10.out.below hb11)
  clear HR0_10 HR1_10 HR2_10 HR3_10 HR4_10
  clear hb11
  refine hK.out _ _ (HS.out _ b11) (fun hHeld => ?_)
  clear hK K
  try simp only [Act.put, List.getElem_toArray, List.getElem_cons_zero, List.getElem_cons_succ, List.setIfInBounds_toArray, List.set_cons_zero, List.set_cons_succ]
  refine wpAnyH_ready (rs := [23]) (by kernel_rfl) (by simp) ?_
  refine AllReadyH.cons rfl (fun K hK => ?_) AllReadyH.nil
  go_simp
  go_at_call 71
  refine (HT7.out _).mono ?_
  rintro z w12 ⟨rfl, hb12⟩
  have b12 : Below w4.heap.size w4 w12 := b11.trans (hb12.mono b11.size)
  have HR0_12 := Lib.hid (HR0_11.out.below hb12)
  have HR1_12 := Lib.hid (HR1_11.out.below hb12)
  have HR2_12 := Lib.hid (HR2_11.out.below hb12)
  have HR3_12 := Lib.hid (HR3_11.out.below hb12)
  have HR4_12 := Lib.hid (HR4_11.out.below hb12)
  clear HR0_11 HR1_11 HR2_11 HR3_11 HR4_11
  clear hb12
  refine hK.out _ _ (HS.out _ b12) (fun hHeld => ?_)
  clear hK K
  try simp only [Act.put, List.getElem_toArray, List.getElem_cons_zero, List.getElem_cons_succ, List.setIfInBounds_toArray, List.set_cons_zero, List.set_cons_succ]
  refine wpAnyH_ready (rs := [24]) (by kernel_rfl) (by simp) ?_
  refine AllReadyH.cons rfl (fun K hK => ?_) AllReadyH.nil
  go_simp
  have hal : ∃ W, w12.alloc (.cells #[.bool true, .string ⟨#[]⟩, .slice x0 y0 v0, .bool true, .string ⟨#[]⟩, .slice x1 y1 v1, .bool true, .string ⟨#[]⟩, .slice x2 y2 v2, .bool true, .string ⟨#[]⟩, .slice x3 y3 v3, .bool true, .string ⟨#[]⟩, .slice x4 y4 v4, .bool false, .string ⟨(num n5).toArray⟩, .slice none 0 0, .bool false, .string s6, .slice none 0 0, .bool false, .string ⟨(num n7).toArray⟩, .slice none 0 0] 80) = W := ⟨_, rfl⟩
  obtain ⟨w13, hal⟩ := hal
  have hb13 : Below w12.heap.size w12 w13 := by rw [← hal]; exact (Below.refl _ _).alloc (Nat.le_refl _) _
  have b13 : Below w4.heap.size w4 w13 := b12.trans (hb13.mono b12.size)
  have HL_13 := Lib.hid (show RIn w13 w4.heap.size (.slice (some ⟨w12.heap.size, 0, none⟩) 8 8) [itL (lightItems n0 m0 a0 b0 c0 d0 e0 k0 br0), itL (commItems br1 s1), itTs br2, itL (lightItems n3 m3 a3 b3 c3 d3 e3 k3 br3), itTs br4, itN n5, itT s6, itN n7] from by
    rw [← hal]
    refine reads_new w12 w4.heap.size 8 [(itL (lightItems n0 m0 a0 b0 c0 d0 e0 k0 br0), .slice x0 y0 v0), (itL (commItems br1 s1), .slice x1 y1 v1), (itTs br2, .slice x2 y2 v2), (itL (lightItems n3 m3 a3 b3 c3 d3 e3 k3 br3), .slice x3 y3 v3), (itTs br4, .slice x4 y4 v4), (itN n5, .slice none 0 0), (itT s6, .slice none 0 0), (itN n7, .slice none 0 0)] rfl b12.size (fun q hq => ?_)
    simp only [List.mem_cons, List.not_mem_nil, or_false] at hq
    rcases hq with rfl | rfl | rfl | rfl | rfl | rfl | rfl | rfl
    · exact HR0_12.out
    · exact HR1_12.out
    · exact HR2_12.out
    · exact HR3_12.out
    · exact HR4_12.out
    · exact RIn.nil _ _
    · exact RIn.nil _ _
    · exact RIn.nil _ _)
  rw [hal]
  clear hal hb13 HR0_12 HR1_12 HR2_12 HR3_12 HR4_12
  refine hK.out _ _ (HS.out _ b13) (fun hHeld => ?_)
  clear hK K
  try simp only [Act.put, List.getElem_toArray, List.getElem_cons_zero, List.getElem_cons_succ, List.setIfInBounds_toArray, List.set_cons_zero, List.set_cons_succ]
  refine wpAnyH_ready (rs := [25]) (by kernel_rfl) (by simp) ?_
  refine AllReadyH.cons rfl (fun K hK => ?_) AllReadyH.nil
  go_simp
  go_at_call 62
  refine (list_any _ _ _ _).mono ?_
  rintro z w14 ⟨rfl, hb14⟩
  have b14 : Below w4.heap.size w4 w14 := b13.trans (hb14.mono b13.size)
  have HL_14 := Lib.hid (HL_13.out.below hb14)
  clear HL_13
  clear hb14
  refine hK.out _ _ (HS.out _ b14) (fun hHeld => ?_)
  clear hK K
  try simp only [Act.put, List.getElem_toArray, List.getElem_cons_zero, List.getElem_cons_succ, List.setIfInBounds_toArray, List.set_cons_zero, List.set_cons_succ]
  refine wpAnyH_ready (rs := [26]) (by kernel_rfl) (by simp) ?_
  refine AllReadyH.cons rfl (fun K hK => ?_) AllReadyH.nil
  go_simp
  go_at_call 61
  refine (HE.out _ _ _ HL_14.out).mono ?_
  rintro z w15 ⟨rfl, hb15⟩
  have b15 : Below w4.heap.size w4 w15 := b14.trans (hb15.mono b14.size)
  have HL_15 := Lib.hid (HL_14.out.below hb15)
  clear HL_14
  clear hb15
  refine hK.out _ _ (HS.out _ b15) (fun hHeld => ?_)
  clear hK K
  try simp only [Act.put, List.getElem_toArray, List.getElem_cons_zero, List.getElem_cons_succ, List.setIfInBounds_toArray, List.set_cons_zero, List.set_cons_succ]
  refine wpAnyH_take (i := 27) (v := ?_) rfl (by kernel_rfl) (by kernel_rfl) (by kernel_rfl) (fun _ _ _ h => h) (.inl ⟨by rfl, ?_⟩) (by assumption) ?_
  rotate_left 1
  · intro w0 hSw
    go_simp <;> with_reducible rfl
  try simp only [Act.put, List.getElem_toArray, List.getElem_cons_zero, List.getElem_cons_succ, List.setIfInBounds_toArray, List.set_cons_zero, List.set_cons_succ]
  refine wpAnyH_take (i := 28) (v := ?_) rfl (by kernel_rfl) (by kernel_rfl) (by kernel_rfl) (fun _ _ _ h => h) (.inl ⟨by rfl, ?_⟩) (by assumption) ?_
  rotate_left 1
  · intro w0 hSw
    go_simp <;> with_reducible rfl
  try simp only [Act.put, List.getElem_toArray, List.getElem_cons_zero, List.getElem_cons_succ, List.setIfInBounds_toArray, List.set_cons_zero, List.set_cons_succ]
  refine wpAnyH_take (i := 29) (v := ?_) rfl (by kernel_rfl) (by kernel_rfl) (by kernel_rfl) (fun _ _ _ h => h) (.inl ⟨by rfl, ?_⟩) (by assumption) ?_
  rotate_left 1
  · intro w0 hSw
    go_simp <;> with_reducible rfl
  try simp only [Act.put, List.getElem_toArray, List.getElem_cons_zero, List.getElem_cons_succ, List.setIfInBounds_toArray, List.set_cons_zero, List.set_cons_succ]
  refine wpAnyH_take (i := 30) (v := ?_) rfl (by kernel_rfl) (by kernel_rfl) (by kernel_rfl) (fun _ _ _ h => h) (.inl ⟨by rfl, ?_⟩) (by assumption) ?_
  rotate_left 1
  · intro w0 hSw
    go_simp <;> with_reducible rfl
  try simp only [Act.put, List.getElem_toArray, List.getElem_cons_zero, List.getElem_cons_succ, List.setIfInBounds_toArray, List.set_cons_zero, List.set_cons_succ]
  refine wpAnyH_done (by kernel_rfl) ?_ 0
  go_wp2
  go_ret2
  exact ⟨rfl, HB4.out.trans (b15.mono HB4.out.size)⟩
set_option maxRecDepth 100000 in
set_option maxHeartbeats 20000000 in
theorem ritUpd_any (n0 m0 : Nat) (a0 b0 c0 d0 e0 : ByteArray) (k0 : Nat) (p0 : Option Addr) (l0 q0 : Nat) (br0 : List ByteArray) (p1 : Option Addr) (l1 q1 : Nat) (br1 : List ByteArray) (s1 : ByteArray) (p2 : Option Addr) (l2 q2 : Nat) (br2 : List ByteArray) (n3 m3 : Nat) (a3 b3 c3 d3 e3 : ByteArray) (k3 : Nat) (p3 : Option Addr) (l3 q3 : Nat) (br3 : List ByteArray) (p4 : Option Addr) (l4 q4 : Nat) (br4 : List ByteArray) (n5 : Nat) (s6 : ByteArray) (n7 : Nat) (w : World) (hn0 : n0 < 18446744073709551616) (hm0 : m0 < 18446744073709551616) (hk0 : k0 < 18446744073709551616) (hv0 : Strs w (.slice p0 l0 q0) br0) (hN0 : br0.length ≤ 1048576) (hv1 : Strs w (.slice p1 l1 q1) br1) (hN1 : br1.length ≤ 1048576) (hv2 : Strs w (.slice p2 l2 q2) br2) (hN2 : br2.length ≤ 1048576) (hn3 : n3 < 18446744073709551616) (hm3 : m3 < 18446744073709551616) (hk3 : k3 < 18446744073709551616) (hv3 : Strs w (.slice p3 l3 q3) br3) (hN3 : br3.length ≤ 1048576) (hv4 : Strs w (.slice p4 l4 q4) br4) (hN4 : br4.length ≤ 1048576) (hn5 : n5 < 18446744073709551616) (hn7 : n7 < 18446744073709551616) (hw : (itL (updItems n0 m0 a0 b0 c0 d0 e0 k0 br0 br1 s1 br2 n3 m3 a3 b3 c3 d3 e3 k3 br3 br4 n5 s6 n7)).weight ≤ 1073741824) :
    Calls Tryd.prog 32 #[.agg #[.int .u64 n0, .int .u64 m0, .string a0, .string b0, .string c0, .string d0, .string e0, .int .u64 k0, .slice p0 l0 q0, .slice p1 l1 q1, .string s1, .slice p2 l2 q2, .int .u64 n3, .int .u64 m3, .string a3, .string b3, .string c3, .string d3, .string e3, .int .u64 k3, .slice p3 l3 q3, .slice p4 l4 q4, .int .u64 n5, .string s6, .int .u64 n7]] w fun z w' => z = .returned (encodeV (itL (updItems n0 m0 a0 b0 c0 d0 e0 k0 br0 br1 s1 br2 n3 m3 a3 b3 c3 d3 e3 k3 br3 br4 n5 s6 n7))) ∧ Below w.heap.size w w' := by
  have he := fun lo v W (h : RIn W lo v (updItems n0 m0 a0 b0 c0 d0 e0 k0 br0 br1 s1 br2 n3 m3 a3 b3 c3 d3 e3 k3 br3 br4 n5 s6 n7)) => encodeRef_any (itL (updItems n0 m0 a0 b0 c0 d0 e0 k0 br0 br1 s1 br2 n3 m3 a3 b3 c3 d3 e3 k3 br3 br4 n5 s6 n7)) v W (by have := size_weight (itL (updItems n0 m0 a0 b0 c0 d0 e0 k0 br0 br1 s1 br2 n3 m3 a3 b3 c3 d3 e3 k3 br3 br4 n5 s6 n7)); omega) (by have := put_weight (itL (updItems n0 m0 a0 b0 c0 d0 e0 k0 br0 br1 s1 br2 n3 m3 a3 b3 c3 d3 e3 k3 br3 br4 n5 s6 n7)); omega) h.reads
  unfold encodeV at he ⊢
  obtain ⟨r1, hr1⟩ : ∃ r : ByteArray, ⟨(encode (itL (updItems n0 m0 a0 b0 c0 d0 e0 k0 br0 br1 s1 br2 n3 m3 a3 b3 c3 d3 e3 k3 br3 br4 n5 s6 n7))).1.toArray⟩ = r := ⟨_, rfl⟩
  obtain ⟨r2, hr2⟩ : ∃ r, (encode (itL (updItems n0 m0 a0 b0 c0 d0 e0 k0 br0 br1 s1 br2 n3 m3 a3 b3 c3 d3 e3 k3 br3 br4 n5 s6 n7))).2 = r := ⟨_, rfl⟩
  rw [hr1, hr2] at he ⊢
  have HE := Lib.hid he
  have HT0 := Lib.hid (fun W (h : Strs W (.slice p0 l0 q0) br0) => ritLight_any n0 m0 a0 b0 c0 d0 e0 k0 (.slice p0 l0 q0) br0 W hn0 hm0 hk0 h hN0)
  have HV0 := Lib.hid hv0
  have HT1 := Lib.hid (fun W (h : Strs W (.slice p1 l1 q1) br1) => ritComm_any (.slice p1 l1 q1) br1 s1 W h hN1)
  have HV1 := Lib.hid hv1
  have HT2 := Lib.hid (fun W (h : Strs W (.slice p2 l2 q2) br2) => ritTexts_any (.slice p2 l2 q2) br2 W h hN2)
  have HV2 := Lib.hid hv2
  have HT3 := Lib.hid (fun W (h : Strs W (.slice p3 l3 q3) br3) => ritLight_any n3 m3 a3 b3 c3 d3 e3 k3 (.slice p3 l3 q3) br3 W hn3 hm3 hk3 h hN3)
  have HV3 := Lib.hid hv3
  have HT4 := Lib.hid (fun W (h : Strs W (.slice p4 l4 q4) br4) => ritTexts_any (.slice p4 l4 q4) br4 W h hN4)
  have HV4 := Lib.hid hv4
  have HT5 := Lib.hid (fun W => ritNumber_any n5 W hn5)
  have HT7 := Lib.hid (fun W => ritNumber_any n7 W hn7)
  clear he hr1 hr2 hw hn0 hm0 hk0 hv0 hN0 hv1 hN1 hv2 hN2 hn3 hm3 hk3 hv3 hN3 hv4 hN4 hn5 hn7
  go_enter Tryd.func32, Tryd.ntmps32
  go_wp2_with fail
  obtain ⟨w4, hw4⟩ : ∃ w4, w.alloc (.cells #[.int .u64 n0, .int .u64 m0, .string a0, .string b0, .string c0, .string d0, .string e0, .int .u64 k0, .slice p0 l0 q0, .slice p1 l1 q1, .string s1, .slice p2 l2 q2, .int .u64 n3, .int .u64 m3, .string a3, .string b3, .string c3, .string d3, .string e3, .int .u64 k3, .slice p3 l3 q3, .slice p4 l4 q4, .int .u64 n5, .string s6, .int .u64 n7] 52) = w4 := ⟨_, rfl⟩
  have HB4 := Lib.hid (show Below w.heap.size w w4 from by rw [← hw4]; exact laid1 w _)
  have hc0 : ∀ j u, [Value.int .u64 n0, .int .u64 m0, .string a0, .string b0, .string c0, .string d0, .string e0, .int .u64 k0, .slice p0 l0 q0, .slice p1 l1 q1, .string s1, .slice p2 l2 q2, .int .u64 n3, .int .u64 m3, .string a3, .string b3, .string c3, .string d3, .string e3, .int .u64 k3, .slice p3 l3 q3, .slice p4 l4 q4, .int .u64 n5, .string s6, .int .u64 n7][j]? = some u → w4.cell? ⟨w.heap.size, j, none⟩ = some u := fun j u h => by
    rw [← hw4, World.cell?_alloc_mark]; simpa using h
  have hk4 : w.heap.size < w4.heap.size := by rw [← hw4]; simp
  have HS := Lib.hid (fun W (hb : Below w4.heap.size w4 W) => (show W.cell? ⟨w.heap.size, 0, none⟩ = some (.int .u64 n0) ∧ W.cell? ⟨w.heap.size, 1, none⟩ = some (.int .u64 m0) ∧ W.cell? ⟨w.heap.size, 2, none⟩ = some (.string a0) ∧ W.cell? ⟨w.heap.size, 3, none⟩ = some (.string b0) ∧ W.cell? ⟨w.heap.size, 4, none⟩ = some (.string c0) ∧ W.cell? ⟨w.heap.size, 5, none⟩ = some (.string d0) ∧ W.cell? ⟨w.heap.size, 6, none⟩ = some (.string e0) ∧ W.cell? ⟨w.heap.size, 7, none⟩ = some (.int .u64 k0) ∧ W.cell? ⟨w.heap.size, 8, none⟩ = some (.slice p0 l0 q0) ∧ W.cell? ⟨w.heap.size, 9, none⟩ = some (.slice p1 l1 q1) ∧ W.cell? ⟨w.heap.size, 10, none⟩ = some (.string s1) ∧ W.cell? ⟨w.heap.size, 11, none⟩ = some (.slice p2 l2 q2) ∧ W.cell? ⟨w.heap.size, 12, none⟩ = some (.int .u64 n3) ∧ W.cell? ⟨w.heap.size, 13, none⟩ = some (.int .u64 m3) ∧ W.cell? ⟨w.heap.size, 14, none⟩ = some (.string a3) ∧ W.cell? ⟨w.heap.size, 15, none⟩ = some (.string b3) ∧ W.cell? ⟨w.heap.size, 16, none⟩ = some (.string c3) ∧ W.cell? ⟨w.heap.size, 17, none⟩ = some (.string d3) ∧ W.cell? ⟨w.heap.size, 18, none⟩ = some (.string e3) ∧ W.cell? ⟨w.heap.size, 19, none⟩ = some (.int .u64 k3) ∧ W.cell? ⟨w.heap.size, 20, none⟩ = some (.slice p3 l3 q3) ∧ W.cell? ⟨w.heap.size, 21, none⟩ = some (.slice p4 l4 q4) ∧ W.cell? ⟨w.heap.size, 22, none⟩ = some (.int .u64 n5) ∧ W.cell? ⟨w.heap.size, 23, none⟩ = some (.string s6) ∧ W.cell? ⟨w.heap.size, 24, none⟩ = some (.int .u64 n7) from ⟨(hb.cell (p := ⟨w.heap.size, 0, none⟩) hk4).trans (hc0 0 _ rfl), (hb.cell (p := ⟨w.heap.size, 1, none⟩) hk4).trans (hc0 1 _ rfl), (hb.cell (p := ⟨w.heap.size, 2, none⟩) hk4).trans (hc0 2 _ rfl), (hb.cell (p := ⟨w.heap.size, 3, none⟩) hk4).trans (hc0 3 _ rfl), (hb.cell (p := ⟨w.heap.size, 4, none⟩) hk4).trans (hc0 4 _ rfl), (hb.cell (p := ⟨w.heap.size, 5, none⟩) hk4).trans (hc0 5 _ rfl), (hb.cell (p := ⟨w.heap.size, 6, none⟩) hk4).trans (hc0 6 _ rfl), (hb.cell (p := ⟨w.heap.size, 7, none⟩) hk4).trans (hc0 7 _ rfl), (hb.cell (p := ⟨w.heap.size, 8, none⟩) hk4).trans (hc0 8 _ rfl), (hb.cell (p := ⟨w.heap.size, 9, none⟩) hk4).trans (hc0 9 _ rfl), (hb.cell (p := ⟨w.heap.size, 10, none⟩) hk4).trans (hc0 10 _ rfl), (hb.cell (p := ⟨w.heap.size, 11, none⟩) hk4).trans (hc0 11 _ rfl), (hb.cell (p := ⟨w.heap.size, 12, none⟩) hk4).trans (hc0 12 _ rfl), (hb.cell (p := ⟨w.heap.size, 13, none⟩) hk4).trans (hc0 13 _ rfl), (hb.cell (p := ⟨w.heap.size, 14, none⟩) hk4).trans (hc0 14 _ rfl), (hb.cell (p := ⟨w.heap.size, 15, none⟩) hk4).trans (hc0 15 _ rfl), (hb.cell (p := ⟨w.heap.size, 16, none⟩) hk4).trans (hc0 16 _ rfl), (hb.cell (p := ⟨w.heap.size, 17, none⟩) hk4).trans (hc0 17 _ rfl), (hb.cell (p := ⟨w.heap.size, 18, none⟩) hk4).trans (hc0 18 _ rfl), (hb.cell (p := ⟨w.heap.size, 19, none⟩) hk4).trans (hc0 19 _ rfl), (hb.cell (p := ⟨w.heap.size, 20, none⟩) hk4).trans (hc0 20 _ rfl), (hb.cell (p := ⟨w.heap.size, 21, none⟩) hk4).trans (hc0 21 _ rfl), (hb.cell (p := ⟨w.heap.size, 22, none⟩) hk4).trans (hc0 22 _ rfl), (hb.cell (p := ⟨w.heap.size, 23, none⟩) hk4).trans (hc0 23 _ rfl), (hb.cell (p := ⟨w.heap.size, 24, none⟩) hk4).trans (hc0 24 _ rfl)⟩))
  rw [hw4]
  clear hw4 hc0
  have b4 : Below w4.heap.size w4 w4.drew := (Below.refl _ _).drew
  refine wp_region_held_drew (S := (fun W => W.cell? ⟨w.heap.size, 0, none⟩ = some (.int .u64 n0) ∧ W.cell? ⟨w.heap.size, 1, none⟩ = some (.int .u64 m0) ∧ W.cell? ⟨w.heap.size, 2, none⟩ = some (.string a0) ∧ W.cell? ⟨w.heap.size, 3, none⟩ = some (.string b0) ∧ W.cell? ⟨w.heap.size, 4, none⟩ = some (.string c0) ∧ W.cell? ⟨w.heap.size, 5, none⟩ = some (.string d0) ∧ W.cell? ⟨w.heap.size, 6, none⟩ = some (.string e0) ∧ W.cell? ⟨w.heap.size, 7, none⟩ = some (.int .u64 k0) ∧ W.cell? ⟨w.heap.size, 8, none⟩ = some (.slice p0 l0 q0) ∧ W.cell? ⟨w.heap.size, 9, none⟩ = some (.slice p1 l1 q1) ∧ W.cell? ⟨w.heap.size, 10, none⟩ = some (.string s1) ∧ W.cell? ⟨w.heap.size, 11, none⟩ = some (.slice p2 l2 q2) ∧ W.cell? ⟨w.heap.size, 12, none⟩ = some (.int .u64 n3) ∧ W.cell? ⟨w.heap.size, 13, none⟩ = some (.int .u64 m3) ∧ W.cell? ⟨w.heap.size, 14, none⟩ = some (.string a3) ∧ W.cell? ⟨w.heap.size, 15, none⟩ = some (.string b3) ∧ W.cell? ⟨w.heap.size, 16, none⟩ = some (.string c3) ∧ W.cell? ⟨w.heap.size, 17, none⟩ = some (.string d3) ∧ W.cell? ⟨w.heap.size, 18, none⟩ = some (.string e3) ∧ W.cell? ⟨w.heap.size, 19, none⟩ = some (.int .u64 k3) ∧ W.cell? ⟨w.heap.size, 20, none⟩ = some (.slice p3 l3 q3) ∧ W.cell? ⟨w.heap.size, 21, none⟩ = some (.slice p4 l4 q4) ∧ W.cell? ⟨w.heap.size, 22, none⟩ = some (.int .u64 n5) ∧ W.cell? ⟨w.heap.size, 23, none⟩ = some (.string s6) ∧ W.cell? ⟨w.heap.size, 24, none⟩ = some (.int .u64 n7))) (by kernel_rfl) (HS.out _ b4) (fun hHeld => ?_)
  refine wpAnyH_take (i := 0) (v := ?_) rfl (by kernel_rfl) (by kernel_rfl) (by kernel_rfl) (fun _ _ _ h => h) (.inl ⟨by rfl, ?_⟩) (by assumption) ?_
  rotate_left 1
  · intro w0 hSw
    go_simp <;> with_reducible rfl
  try simp only [Act.put, List.getElem_toArray, List.getElem_cons_zero, List.setIfInBounds_toArray, List.set_cons_zero, List.set_cons_succ]
  refine wpAnyH_take (i := 1) (v := ?_) rfl (by kernel_rfl) (by kernel_rfl) (by kernel_rfl) (fun _ _ _ h => h) (.inl ⟨by rfl, ?_⟩) (by assumption) ?_
  rotate_left 1
  · intro w0 hSw
    obtain ⟨z0, z1, z2, z3, z4, z5, z6, z7, z8, z9, z10, z11, z12, z13, z14, z15, z16, z17, z18, z19, z20, z21, z22, z23, z24⟩ := hSw
    go_simp <;> with_reducible rfl
  try simp only [Act.put, List.getElem_toArray, List.getElem_cons_zero, List.getElem_cons_succ, List.setIfInBounds_toArray, List.set_cons_zero, List.set_cons_succ]
  refine wpAnyH_take (i := 3) (v := ?_) rfl (by kernel_rfl) (by kernel_rfl) (by kernel_rfl) (fun _ _ _ h => h) (.inl ⟨by rfl, ?_⟩) (by assumption) ?_
  rotate_left 1
  · intro w0 hSw
    go_simp <;> with_reducible rfl
  try simp only [Act.put, List.getElem_toArray, List.getElem_cons_zero, List.getElem_cons_succ, List.setIfInBounds_toArray, List.set_cons_zero, List.set_cons_succ]
  refine wpAnyH_take (i := 4) (v := ?_) rfl (by kernel_rfl) (by kernel_rfl) (by kernel_rfl) (fun _ _ _ h => h) (.inl ⟨by rfl, ?_⟩) (by assumption) ?_
  rotate_left 1
  · intro w0 hSw
    obtain ⟨z0, z1, z2, z3, z4, z5, z6, z7, z8, z9, z10, z11, z12, z13, z14, z15, z16, z17, z18, z19, z20, z21, z22, z23, z24⟩ := hSw
    go_simp <;> with_reducible rfl
  try simp only [Act.put, List.getElem_toArray, List.getElem_cons_zero, List.getElem_cons_succ, List.setIfInBounds_toArray, List.set_cons_zero, List.set_cons_succ]
  refine wpAnyH_take (i := 6) (v := ?_) rfl (by kernel_rfl) (by kernel_rfl) (by kernel_rfl) (fun _ _ _ h => h) (.inl ⟨by rfl, ?_⟩) (by assumption) ?_
  rotate_left 1
  · intro w0 hSw
    go_simp <;> with_reducible rfl
  try simp only [Act.put, List.getElem_toArray, List.getElem_cons_zero, List.getElem_cons_succ, List.setIfInBounds_toArray, List.set_cons_zero, List.set_cons_succ]
  refine wpAnyH_take (i := 7) (v := ?_) rfl (by kernel_rfl) (by kernel_rfl) (by kernel_rfl) (fun _ _ _ h => h) (.inl ⟨by rfl, ?_⟩) (by assumption) ?_
  rotate_left 1
  · intro w0 hSw
    obtain ⟨z0, z1, z2, z3, z4, z5, z6, z7, z8, z9, z10, z11, z12, z13, z14, z15, z16, z17, z18, z19, z20, z21, z22, z23, z24⟩ := hSw
    go_simp <;> with_reducible rfl
  try simp only [Act.put, List.getElem_toArray, List.getElem_cons_zero, List.getElem_cons_succ, List.setIfInBounds_toArray, List.set_cons_zero, List.set_cons_succ]
  refine wpAnyH_take (i := 9) (v := ?_) rfl (by kernel_rfl) (by kernel_rfl) (by kernel_rfl) (fun _ _ _ h => h) (.inl ⟨by rfl, ?_⟩) (by assumption) ?_
  rotate_left 1
  · intro w0 hSw
    go_simp <;> with_reducible rfl
  try simp only [Act.put, List.getElem_toArray, List.getElem_cons_zero, List.getElem_cons_succ, List.setIfInBounds_toArray, List.set_cons_zero, List.set_cons_succ]
  refine wpAnyH_take (i := 10) (v := ?_) rfl (by kernel_rfl) (by kernel_rfl) (by kernel_rfl) (fun _ _ _ h => h) (.inl ⟨by rfl, ?_⟩) (by assumption) ?_
  rotate_left 1
  · intro w0 hSw
    obtain ⟨z0, z1, z2, z3, z4, z5, z6, z7, z8, z9, z10, z11, z12, z13, z14, z15, z16, z17, z18, z19, z20, z21, z22, z23, z24⟩ := hSw
    go_simp <;> with_reducible rfl
  try simp only [Act.put, List.getElem_toArray, List.getElem_cons_zero, List.getElem_cons_succ, List.setIfInBounds_toArray, List.set_cons_zero, List.set_cons_succ]
  refine wpAnyH_take (i := 12) (v := ?_) rfl (by kernel_rfl) (by kernel_rfl) (by kernel_rfl) (fun _ _ _ h => h) (.inl ⟨by rfl, ?_⟩) (by assumption) ?_
  rotate_left 1
  · intro w0 hSw
    go_simp <;> with_reducible rfl
  try simp only [Act.put, List.getElem_toArray, List.getElem_cons_zero, List.getElem_cons_succ, List.setIfInBounds_toArray, List.set_cons_zero, List.set_cons_succ]
  refine wpAnyH_take (i := 13) (v := ?_) rfl (by kernel_rfl) (by kernel_rfl) (by kernel_rfl) (fun _ _ _ h => h) (.inl ⟨by rfl, ?_⟩) (by assumption) ?_
  rotate_left 1
  · intro w0 hSw
    obtain ⟨z0, z1, z2, z3, z4, z5, z6, z7, z8, z9, z10, z11, z12, z13, z14, z15, z16, z17, z18, z19, z20, z21, z22, z23, z24⟩ := hSw
    go_simp <;> with_reducible rfl
  try simp only [Act.put, List.getElem_toArray, List.getElem_cons_zero, List.getElem_cons_succ, List.setIfInBounds_toArray, List.set_cons_zero, List.set_cons_succ]
  refine wpAnyH_take (i := 15) (v := ?_) rfl (by kernel_rfl) (by kernel_rfl) (by kernel_rfl) (fun _ _ _ h => h) (.inl ⟨by rfl, ?_⟩) (by assumption) ?_
  rotate_left 1
  · intro w0 hSw
    go_simp <;> with_reducible rfl
  try simp only [Act.put, List.getElem_toArray, List.getElem_cons_zero, List.getElem_cons_succ, List.setIfInBounds_toArray, List.set_cons_zero, List.set_cons_succ]
  refine wpAnyH_take (i := 16) (v := ?_) rfl (by kernel_rfl) (by kernel_rfl) (by kernel_rfl) (fun _ _ _ h => h) (.inl ⟨by rfl, ?_⟩) (by assumption) ?_
  rotate_left 1
  · intro w0 hSw
    obtain ⟨z0, z1, z2, z3, z4, z5, z6, z7, z8, z9, z10, z11, z12, z13, z14, z15, z16, z17, z18, z19, z20, z21, z22, z23, z24⟩ := hSw
    go_simp <;> with_reducible rfl
  try simp only [Act.put, List.getElem_toArray, List.getElem_cons_zero, List.getElem_cons_succ, List.setIfInBounds_toArray, List.set_cons_zero, List.set_cons_succ]
  refine wpAnyH_take (i := 18) (v := ?_) rfl (by kernel_rfl) (by kernel_rfl) (by kernel_rfl) (fun _ _ _ h => h) (.inl ⟨by rfl, ?_⟩) (by assumption) ?_
  rotate_left 1
  · intro w0 hSw
    go_simp <;> with_reducible rfl
  try simp only [Act.put, List.getElem_toArray, List.getElem_cons_zero, List.getElem_cons_succ, List.setIfInBounds_toArray, List.set_cons_zero, List.set_cons_succ]
  refine wpAnyH_take (i := 19) (v := ?_) rfl (by kernel_rfl) (by kernel_rfl) (by kernel_rfl) (fun _ _ _ h => h) (.inl ⟨by rfl, ?_⟩) (by assumption) ?_
  rotate_left 1
  · intro w0 hSw
    obtain ⟨z0, z1, z2, z3, z4, z5, z6, z7, z8, z9, z10, z11, z12, z13, z14, z15, z16, z17, z18, z19, z20, z21, z22, z23, z24⟩ := hSw
    go_simp <;> with_reducible rfl
  try simp only [Act.put, List.getElem_toArray, List.getElem_cons_zero, List.getElem_cons_succ, List.setIfInBounds_toArray, List.set_cons_zero, List.set_cons_succ]
  refine wpAnyH_take (i := 21) (v := ?_) rfl (by kernel_rfl) (by kernel_rfl) (by kernel_rfl) (fun _ _ _ h => h) (.inl ⟨by rfl, ?_⟩) (by assumption) ?_
  rotate_left 1
  · intro w0 hSw
    go_simp <;> with_reducible rfl
  try simp only [Act.put, List.getElem_toArray, List.getElem_cons_zero, List.getElem_cons_succ, List.setIfInBounds_toArray, List.set_cons_zero, List.set_cons_succ]
  refine wpAnyH_take (i := 22) (v := ?_) rfl (by kernel_rfl) (by kernel_rfl) (by kernel_rfl) (fun _ _ _ h => h) (.inl ⟨by rfl, ?_⟩) (by assumption) ?_
  rotate_left 1
  · intro w0 hSw
    obtain ⟨z0, z1, z2, z3, z4, z5, z6, z7, z8, z9, z10, z11, z12, z13, z14, z15, z16, z17, z18, z19, z20, z21, z22, z23, z24⟩ := hSw
    go_simp <;> with_reducible rfl
  try simp only [Act.put, List.getElem_toArray, List.getElem_cons_zero, List.getElem_cons_succ, List.setIfInBounds_toArray, List.set_cons_zero, List.set_cons_succ]
  refine wpAnyH_ready (rs := [2]) (by kernel_rfl) (by simp) ?_
  refine AllReadyH.cons rfl (fun K hK => ?_) AllReadyH.nil
  go_simp
  go_at_call 68
  refine (HT0.out _ (HV0.out.below (HB4.out.trans (b4.mono HB4.out.size)))).mono ?_
  rintro z w5 ⟨x0, y0, v0, rfl, hr0, hb5⟩
  have b5 : Below w4.heap.size w4 w5 := b4.trans (hb5.mono b4.size)
  have HR0_5 := Lib.hid (RIn.mono hr0 b4.size)
  clear hr0
  clear hb5
  refine hK.out _ _ (HS.out _ b5) (fun hHeld => ?_)
  clear hK K
  try simp only [Act.put, List.getElem_toArray, List.getElem_cons_zero, List.getElem_cons_succ, List.setIfInBounds_toArray, List.set_cons_zero, List.set_cons_succ]
  refine wpAnyH_ready (rs := [5]) (by kernel_rfl) (by simp) ?_
  refine AllReadyH.cons rfl (fun K hK => ?_) AllReadyH.nil
  go_simp
  go_at_call 69
  refine (HT1.out _ (HV1.out.below (HB4.out.trans (b5.mono HB4.out.size)))).mono ?_
  rintro z w6 ⟨x1, y1, v1, rfl, hr1, hb6⟩
  have b6 : Below w4.heap.size w4 w6 := b5.trans (hb6.mono b5.size)
  have HR0_6 := Lib.hid (HR0_5.out.below hb6)
  clear HR0_5
  have HR1_6 := Lib.hid (RIn.mono hr1 b5.size)
  clear hr1
  clear hb6
  refine hK.out _ _ (HS.out _ b6) (fun hHeld => ?_)
  clear hK K
  try simp only [Act.put, List.getElem_toArray, List.getElem_cons_zero, List.getElem_cons_succ, List.setIfInBounds_toArray, List.set_cons_zero, List.set_cons_succ]
  refine wpAnyH_ready (rs := [8]) (by kernel_rfl) (by simp) ?_
  refine AllReadyH.cons rfl (fun K hK => ?_) AllReadyH.nil
  go_simp
  go_at_call 70
  refine (HT2.out _ (HV2.out.below (HB4.out.trans (b6.mono HB4.out.size)))).mono ?_
  rintro z w7 ⟨x2, y2, v2, rfl, hr2, hb7⟩
  have b7 : Below w4.heap.size w4 w7 := b6.trans (hb7.mono b6.size)
  have HR0_7 := Lib.hid (HR0_6.out.below hb7)
  have HR1_7 := Lib.hid (HR1_6.out.below hb7)
  clear HR0_6 HR1_6
  have HR2_7 := Lib.hid (RIn.mono hr2 b6.size)
  clear hr2
  clear hb7
  refine hK.out _ _ (HS.out _ b7) (fun hHeld => ?_)
  clear hK K
  try simp only [Act.put, List.getElem_toArray, List.getElem_cons_zero, List.getElem_cons_succ, List.setIfInBounds_toArray, List.set_cons_zero, List.set_cons_succ]
  refine wpAnyH_ready (rs := [11]) (by kernel_rfl) (by simp) ?_
  refine AllReadyH.cons rfl (fun K hK => ?_) AllReadyH.nil
  go_simp
  go_at_call 68
  refine (HT3.out _ (HV3.out.below (HB4.out.trans (b7.mono HB4.out.size)))).mono ?_
  rintro z w8 ⟨x3, y3, v3, rfl, hr3, hb8⟩
  have b8 : Below w4.heap.size w4 w8 := b7.trans (hb8.mono b7.size)
  have HR0_8 := Lib.hid (HR0_7.out.below hb8)
  have HR1_8 := Lib.hid (HR1_7.out.below hb8)
  have HR2_8 := Lib.hid (HR2_7.out.below hb8)
  clear HR0_7 HR1_7 HR2_7
  have HR3_8 := Lib.hid (RIn.mono hr3 b7.size)
  clear hr3
  clear hb8
  refine hK.out _ _ (HS.out _ b8) (fun hHeld => ?_)
  clear hK K
  try simp only [Act.put, List.getElem_toArray, List.getElem_cons_zero, List.getElem_cons_succ, List.setIfInBounds_toArray, List.set_cons_zero, List.set_cons_succ]
  refine wpAnyH_ready (rs := [14]) (by kernel_rfl) (by simp) ?_
  refine AllReadyH.cons rfl (fun K hK => ?_) AllReadyH.nil
  go_simp
  go_at_call 70
  refine (HT4.out _ (HV4.out.below (HB4.out.trans (b8.mono HB4.out.size)))).mono ?_
  rintro z w9 ⟨x4, y4, v4, rfl, hr4, hb9⟩
  have b9 : Below w4.heap.size w4 w9 := b8.trans (hb9.mono b8.size)
  have HR0_9 := Lib.hid (HR0_8.out.below hb9)
  have HR1_9 := Lib.hid (HR1_8.out.below hb9)
  have HR2_9 := Lib.hid (HR2_8.out.below hb9)
  have HR3_9 := Lib.hid (HR3_8.out.below hb9)
  clear HR0_8 HR1_8 HR2_8 HR3_8
  have HR4_9 := Lib.hid (RIn.mono hr4 b8.size)
  clear hr4
  clear hb9
  refine hK.out _ _ (HS.out _ b9) (fun hHeld => ?_)
  clear hK K
  try simp only [Act.put, List.getElem_toArray, List.getElem_cons_zero, List.getElem_cons_succ, List.setIfInBounds_toArray, List.set_cons_zero, List.set_cons_succ]
  refine wpAnyH_ready (rs := [17]) (by kernel_rfl) (by simp) ?_
  refine AllReadyH.cons rfl (fun K hK => ?_) AllReadyH.nil
  go_simp
  go_at_call 73
  refine (HT5.out _).mono ?_
  rintro z w10 ⟨rfl, hb10⟩
  have b10 : Below w4.heap.size w4 w10 := b9.trans (hb10.mono b9.size)
  have HR0_10 := Lib.hid (HR0_9.out.below hb10)
  have HR1_10 := Lib.hid (HR1_9.out.below hb10)
  have HR2_10 := Lib.hid (HR2_9.out.below hb10)
  have HR3_10 := Lib.hid (HR3_9.out.below hb10)
  have HR4_10 := Lib.hid (HR4_9.out.below hb10)
  clear HR0_9 HR1_9 HR2_9 HR3_9 HR4_9
  clear hb10
  refine hK.out _ _ (HS.out _ b10) (fun hHeld => ?_)
  clear hK K
  try simp only [Act.put, List.getElem_toArray, List.getElem_cons_zero, List.getElem_cons_succ, List.setIfInBounds_toArray, List.set_cons_zero, List.set_cons_succ]
  refine wpAnyH_ready (rs := [20]) (by kernel_rfl) (by simp) ?_
  refine AllReadyH.cons rfl (fun K hK => ?_) AllReadyH.nil
  go_simp
  go_at_call 74
  refine (rtext_any s6 _).mono ?_
  rintro z w11 ⟨rfl, hb11⟩
  have b11 : Below w4.heap.size w4 w11 := b10.trans (hb11.mono b10.size)
  have HR0_11 := Lib.hid (HR0_10.out.below hb11)
  have HR1_11 := Lib.hid (HR1_10.out.below hb11)
  have HR2_11 := Lib.hid (HR2_10.out.below hb11)
  have HR3_11 := Lib.hid (HR3_10.out.below hb11)
  have HR4_11 := Lib.hid (HR4_10.out.below hb11)
  clear HR0_10 HR1_10 HR2_10 HR3_10 HR4_10
  clear hb11
  refine hK.out _ _ (HS.out _ b11) (fun hHeld => ?_)
  clear hK K
  try simp only [Act.put, List.getElem_toArray, List.getElem_cons_zero, List.getElem_cons_succ, List.setIfInBounds_toArray, List.set_cons_zero, List.set_cons_succ]
  refine wpAnyH_ready (rs := [23]) (by kernel_rfl) (by simp) ?_
  refine AllReadyH.cons rfl (fun K hK => ?_) AllReadyH.nil
  go_simp
  go_at_call 73
  refine (HT7.out _).mono ?_
  rintro z w12 ⟨rfl, hb12⟩
  have b12 : Below w4.heap.size w4 w12 := b11.trans (hb12.mono b11.size)
  have HR0_12 := Lib.hid (HR0_11.out.below hb12)
  have HR1_12 := Lib.hid (HR1_11.out.below hb12)
  have HR2_12 := Lib.hid (HR2_11.out.below hb12)
  have HR3_12 := Lib.hid (HR3_11.out.below hb12)
  have HR4_12 := Lib.hid (HR4_11.out.below hb12)
  clear HR0_11 HR1_11 HR2_11 HR3_11 HR4_11
  clear hb12
  refine hK.out _ _ (HS.out _ b12) (fun hHeld => ?_)
  clear hK K
  try simp only [Act.put, List.getElem_toArray, List.getElem_cons_zero, List.getElem_cons_succ, List.setIfInBounds_toArray, List.set_cons_zero, List.set_cons_succ]
  refine wpAnyH_ready (rs := [24]) (by kernel_rfl) (by simp) ?_
  refine AllReadyH.cons rfl (fun K hK => ?_) AllReadyH.nil
  go_simp
  have hal : ∃ W, w12.alloc (.cells #[.bool true, .string ⟨#[]⟩, .slice x0 y0 v0, .bool true, .string ⟨#[]⟩, .slice x1 y1 v1, .bool true, .string ⟨#[]⟩, .slice x2 y2 v2, .bool true, .string ⟨#[]⟩, .slice x3 y3 v3, .bool true, .string ⟨#[]⟩, .slice x4 y4 v4, .bool false, .string ⟨(num n5).toArray⟩, .slice none 0 0, .bool false, .string s6, .slice none 0 0, .bool false, .string ⟨(num n7).toArray⟩, .slice none 0 0] 80) = W := ⟨_, rfl⟩
  obtain ⟨w13, hal⟩ := hal
  have hb13 : Below w12.heap.size w12 w13 := by rw [← hal]; exact (Below.refl _ _).alloc (Nat.le_refl _) _
  have b13 : Below w4.heap.size w4 w13 := b12.trans (hb13.mono b12.size)
  have HL_13 := Lib.hid (show RIn w13 w4.heap.size (.slice (some ⟨w12.heap.size, 0, none⟩) 8 8) [itL (lightItems n0 m0 a0 b0 c0 d0 e0 k0 br0), itL (commItems br1 s1), itTs br2, itL (lightItems n3 m3 a3 b3 c3 d3 e3 k3 br3), itTs br4, itN n5, itT s6, itN n7] from by
    rw [← hal]
    refine reads_new w12 w4.heap.size 8 [(itL (lightItems n0 m0 a0 b0 c0 d0 e0 k0 br0), .slice x0 y0 v0), (itL (commItems br1 s1), .slice x1 y1 v1), (itTs br2, .slice x2 y2 v2), (itL (lightItems n3 m3 a3 b3 c3 d3 e3 k3 br3), .slice x3 y3 v3), (itTs br4, .slice x4 y4 v4), (itN n5, .slice none 0 0), (itT s6, .slice none 0 0), (itN n7, .slice none 0 0)] rfl b12.size (fun q hq => ?_)
    simp only [List.mem_cons, List.not_mem_nil, or_false] at hq
    rcases hq with rfl | rfl | rfl | rfl | rfl | rfl | rfl | rfl
    · exact HR0_12.out
    · exact HR1_12.out
    · exact HR2_12.out
    · exact HR3_12.out
    · exact HR4_12.out
    · exact RIn.nil _ _
    · exact RIn.nil _ _
    · exact RIn.nil _ _)
  rw [hal]
  clear hal hb13 HR0_12 HR1_12 HR2_12 HR3_12 HR4_12
  refine hK.out _ _ (HS.out _ b13) (fun hHeld => ?_)
  clear hK K
  try simp only [Act.put, List.getElem_toArray, List.getElem_cons_zero, List.getElem_cons_succ, List.setIfInBounds_toArray, List.set_cons_zero, List.set_cons_succ]
  refine wpAnyH_ready (rs := [25]) (by kernel_rfl) (by simp) ?_
  refine AllReadyH.cons rfl (fun K hK => ?_) AllReadyH.nil
  go_simp
  go_at_call 67
  refine (rlist_any _ _ _ _).mono ?_
  rintro z w14 ⟨rfl, hb14⟩
  have b14 : Below w4.heap.size w4 w14 := b13.trans (hb14.mono b13.size)
  have HL_14 := Lib.hid (HL_13.out.below hb14)
  clear HL_13
  clear hb14
  refine hK.out _ _ (HS.out _ b14) (fun hHeld => ?_)
  clear hK K
  try simp only [Act.put, List.getElem_toArray, List.getElem_cons_zero, List.getElem_cons_succ, List.setIfInBounds_toArray, List.set_cons_zero, List.set_cons_succ]
  refine wpAnyH_ready (rs := [26]) (by kernel_rfl) (by simp) ?_
  refine AllReadyH.cons rfl (fun K hK => ?_) AllReadyH.nil
  go_simp
  go_at_call 66
  refine (HE.out _ _ _ HL_14.out).mono ?_
  rintro z w15 ⟨rfl, hb15⟩
  have b15 : Below w4.heap.size w4 w15 := b14.trans (hb15.mono b14.size)
  have HL_15 := Lib.hid (HL_14.out.below hb15)
  clear HL_14
  clear hb15
  refine hK.out _ _ (HS.out _ b15) (fun hHeld => ?_)
  clear hK K
  try simp only [Act.put, List.getElem_toArray, List.getElem_cons_zero, List.getElem_cons_succ, List.setIfInBounds_toArray, List.set_cons_zero, List.set_cons_succ]
  refine wpAnyH_take (i := 27) (v := ?_) rfl (by kernel_rfl) (by kernel_rfl) (by kernel_rfl) (fun _ _ _ h => h) (.inl ⟨by rfl, ?_⟩) (by assumption) ?_
  rotate_left 1
  · intro w0 hSw
    go_simp <;> with_reducible rfl
  try simp only [Act.put, List.getElem_toArray, List.getElem_cons_zero, List.getElem_cons_succ, List.setIfInBounds_toArray, List.set_cons_zero, List.set_cons_succ]
  refine wpAnyH_take (i := 28) (v := ?_) rfl (by kernel_rfl) (by kernel_rfl) (by kernel_rfl) (fun _ _ _ h => h) (.inl ⟨by rfl, ?_⟩) (by assumption) ?_
  rotate_left 1
  · intro w0 hSw
    go_simp <;> with_reducible rfl
  try simp only [Act.put, List.getElem_toArray, List.getElem_cons_zero, List.getElem_cons_succ, List.setIfInBounds_toArray, List.set_cons_zero, List.set_cons_succ]
  refine wpAnyH_take (i := 29) (v := ?_) rfl (by kernel_rfl) (by kernel_rfl) (by kernel_rfl) (fun _ _ _ h => h) (.inl ⟨by rfl, ?_⟩) (by assumption) ?_
  rotate_left 1
  · intro w0 hSw
    go_simp <;> with_reducible rfl
  try simp only [Act.put, List.getElem_toArray, List.getElem_cons_zero, List.getElem_cons_succ, List.setIfInBounds_toArray, List.set_cons_zero, List.set_cons_succ]
  refine wpAnyH_take (i := 30) (v := ?_) rfl (by kernel_rfl) (by kernel_rfl) (by kernel_rfl) (fun _ _ _ h => h) (.inl ⟨by rfl, ?_⟩) (by assumption) ?_
  rotate_left 1
  · intro w0 hSw
    go_simp <;> with_reducible rfl
  try simp only [Act.put, List.getElem_toArray, List.getElem_cons_zero, List.getElem_cons_succ, List.setIfInBounds_toArray, List.set_cons_zero, List.set_cons_succ]
  refine wpAnyH_done (by kernel_rfl) ?_ 0
  go_wp2
  go_ret2
  exact ⟨rfl, HB4.out.trans (b15.mono HB4.out.size)⟩
end Go.Proofs.YtfbopnebfdkhdaaDoor
