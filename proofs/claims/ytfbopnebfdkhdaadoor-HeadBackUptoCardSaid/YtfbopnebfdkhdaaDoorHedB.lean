/- The contract of shown. -/
import Derived.Test.YtfbopnebfdkhdaaDoorHedA
namespace Go.Proofs.YtfbopnebfdkhdaaDoor
open Go.RowKit Go.Shelf Go.Lib

theorem infoByteH : (Tryd.prog.info? 5).map (fun i => (i.zero, i.size, i.bytes)) = some (some (.int .u8 0), 1, 1) := by kernel_rfl
theorem noughtB_size : noughtB.size = 32 := by simp [noughtB, ByteArray.size]
/-- the chunks of shown -/
theorem shown13_right : rightB (hdrChunks 1 0 noughtB noughtB noughtB) 3 = true := by
  unfold rightB hdrChunks
  have h1 := numL_size 1
  have h0 := numL_size 0
  have hn := noughtB_size
  simp [noChunk, h1, h0, hn]
theorem shown13_wrong (s : ByteArray) (h : s.size = 31) : rightB (hdrChunks 1 0 noughtB noughtB s) 3 = false := by
  unfold rightB hdrChunks
  simp [noChunk, h]
theorem num_zeroB : (⟨(numL 0).toArray⟩ : ByteArray) = noughtB := rfl

set_option maxRecDepth 100000 in
set_option maxHeartbeats 3200000 in
theorem shown13_any (w : World) (hK : KTab w) : Calls Tryd.prog 10 #[] w fun e w' => e = .returned (.bool true) ∧ Below w.heap.size w w' := by
  obtain ⟨z, hz⟩ : ∃ z, noughtB = z := ⟨_, rfl⟩
  have hzs : z.size = 32 := by rw [← hz]; exact noughtB_size
  have hr1 : rootedV (hdrChunks 1 0 z z z) 3 = .tuple #[.string (rootB 3 (hdrChunks 1 0 z z z) noughtB), .int .i64 0] := by
    unfold rootedV; rw [← hz, shown13_right]; rfl
  have hrs : rightB (hdrChunks 1 0 z z z) 3 = true := by rw [← hz]; exact shown13_right
  obtain ⟨y, hy⟩ : ∃ y, z.extract 1 32 = y := ⟨_, rfl⟩
  have hys : y.size = 31 := by rw [← hy, ByteArray.size_extract, hzs]; rfl
  have hr2 : rootedV (hdrChunks 1 0 z z y) 3 = .tuple #[.string ⟨#[]⟩, .int .i64 130] := by
    unfold rootedV; rw [← hz, shown13_wrong _ hys]; rfl
  have hch : hdrChunks 1 0 z z z = [⟨(numL 1).toArray⟩, z, z, z, z] := by unfold hdrChunks; rw [num_zeroB, hz]
  obtain ⟨rt, hrt⟩ : ∃ rt, rootB 3 (hdrChunks 1 0 z z z) noughtB = rt := ⟨_, rfl⟩
  rw [hrt] at hr1
  have H1 := Lib.hid (fun W (h : KTab W) => (show Calls Tryd.prog 11 #[.agg #[.int .u64 1, .int .u64 0, .string z, .string z, .string z]] W fun e w' => e = .returned (.tuple #[.string rt, .int .i64 0]) ∧ Below W.heap.size W w' from by
    rw [← hr1]; exact headRoot_any 1 0 z z z W (by omega) (by omega) (by omega) (by omega) (by omega) h))
  have H2 := Lib.hid (fun W (h : KTab W) => (show Calls Tryd.prog 11 #[.agg #[.int .u64 1, .int .u64 0, .string z, .string z, .string y]] W fun e w' => e = .returned (.tuple #[.string ⟨#[]⟩, .int .i64 130]) ∧ Below W.heap.size W w' from by
    rw [← hr2]; exact headRoot_any 1 0 z z y W (by omega) (by omega) (by omega) (by omega) (by omega) h))
  obtain ⟨x, hx⟩ : ∃ x : ByteArray, ⟨(numL 1).toArray⟩ = x := ⟨_, rfl⟩
  have hxs : x.size = 32 := by rw [← hx]; exact numL_size 1
  have HN := Lib.hid (fun W => (show Calls Tryd.prog 34 #[.int .u64 1] W fun e w' => e = .returned (.string x) ∧ Below W.heap.size W w' from by
    rw [← hx]; exact sszNumber_any 1 W (by omega)))
  rw [hx] at hch
  rw [hch] at hrs hrt
  have H3 := Lib.hid (fun (v : Value) W (hs : Strs W v [x, z, z, z, z]) (h : KTab W) => (show Calls Tryd.prog 33 #[v, .int .i64 3] W fun e w' => e = .returned (.tuple #[.string rt, .int .i64 0]) ∧ Below W.heap.size W w' from by
    have := sszRoot_any v [x, z, z, z, z] 3 W hs (by omega) (by simp) (by
      intro u hu
      simp only [List.mem_cons, List.not_mem_nil, or_false] at hu
      rcases hu with rfl | rfl | rfl | rfl | rfl <;> omega) h
    rw [hrs, hrt] at this
    exact this))
  have HZ := Lib.hid hz
  have HK := Lib.hid hK
  have hzl : z.size = 32 := hzs
  clear hz hzs hr1 hrs hys hr2 hch hrt hx hxs hK
  go_enter Tryd.func10, Tryd.ntmps10
  go_wp2_with (at_make; refine wpList_makeB rfl _ _ 62 rfl w.heap.size 5 Tryd.underlying62 infoByteH 32 _ _ rfl rfl ?c1 ?c2 ?c3 ?c4 ?_)
  case c1 => rfl
  case c2 => rfl
  case c3 => omega
  case c4 => exact Nat.le_refl _
  intro w1 hown hg1
  have hb1 : Below w.heap.size w w1 := (Below.refl _ _).grown hg1 (Nat.le_refl _) (fun k e => by cases e)
  have hcv : (convert 62 9 (.slice (some ⟨w.heap.size, 0, none⟩) 32 32)).run Tryd.prog w1 = .ok (.string z) w1 := by
    have := hown.str (P := Tryd.prog) Tryd.underlying62 Tryd.underlying5 Tryd.underlying9
    rw [← HZ.out]
    exact this
  have HB1 := Lib.hid hb1
  clear hown hg1 hb1
  go_wp2_with fail
  have hK1 : KTab (w1.alloc (.cells #[.int .u64 1, .int .u64 0, .string z, .string z, .string z] 24)) := (HK.out.below HB1.out).below ((Below.refl _ _).alloc (Nat.le_refl _) _)
  refine (H1.out _ hK1).mono ?_
  rintro e w2 ⟨rfl, hb2⟩
  have hK2 := hK1.below hb2
  have hz2 := hb2.size
  rw [World.size_alloc] at hz2
  have hl2 : w1.heap.size < w2.heap.size := by omega
  have hc2 : ∀ j u, [Value.int .u64 1, .int .u64 0, .string z, .string z, .string z][j]? = some u → w2.cell? ⟨w1.heap.size, j, none⟩ = some u := fun j u h => by
    refine (hb2.cell (p := ⟨w1.heap.size, j, none⟩) (by simp)).trans ?_
    rw [World.cell?_alloc_mark]; simpa using h
  have hf2 : ∀ j, w2.frozen? ⟨w1.heap.size, j, none⟩ = false := fun j => by
    refine (hb2.frozen (p := ⟨w1.heap.size, j, none⟩) (by simp)).trans ?_
    rw [World.frozen?, World.alloc_heap_new]; simp
  have HB2 := Lib.hid ((HB1.out.alloc HB1.out.size _).trans (hb2.mono (by have := HB1.out.size; simp; omega)))
  clear hb2 hcv
  go_wp2_with fail
  refine (HN.out _).mono ?_
  rintro e w3 ⟨rfl, hb3⟩
  have hK3 := hK2.below hb3
  have hz3 := hb3.size
  have b5 : Below w3.heap.size w3 (w3.alloc (.cells #[.string x, .string z, .string z, .string z, .string z] 9)) := (Below.refl _ _).alloc (Nat.le_refl _) _
  have hst : Strs (w3.alloc (.cells #[.string x, .string z, .string z, .string z, .string z] 9)) (.slice (some ⟨w3.heap.size, 0, none⟩) 5 5) [x, z, z, z, z] := by
    refine ⟨_, 5, rfl, by simp, .inr ⟨w3.heap.size, 0, rfl, by simp, fun j u hu => ?_⟩⟩
    match j, hu with
    | 0, hu => cases hu; simp
    | 1, hu => cases hu; simp
    | 2, hu => cases hu; simp
    | 3, hu => cases hu; simp
    | 4, hu => cases hu; simp
  have H4 := Lib.hid (H3.out _ _ hst (hK3.below b5))
  clear hst
  go_wp2_with fail
  refine H4.out.mono ?_
  rintro e w4 ⟨rfl, hb4⟩
  have b34 : Below w3.heap.size w3 w4 := b5.trans (hb4.mono b5.size)
  have hz4 := b34.size
  have hK4 := hK3.below b34
  have hl4 : w1.heap.size < w4.heap.size := by omega
  have hc4 : ∀ j u, [Value.int .u64 1, .int .u64 0, .string z, .string z, .string z][j]? = some u → w4.cell? ⟨w1.heap.size, j, none⟩ = some u := fun j u h =>
    (b34.cell (p := ⟨w1.heap.size, j, none⟩) (by dsimp only; omega)).trans ((hb3.cell (p := ⟨w1.heap.size, j, none⟩) hl2).trans (hc2 j u h))
  have c0 := hc4 0 _ rfl
  have c1 := hc4 1 _ rfl
  have c2 := hc4 2 _ rfl
  have c3 := hc4 3 _ rfl
  have c4 := hc4 4 _ rfl
  have f4 : w4.frozen? ⟨w1.heap.size, 4, none⟩ = false := (b34.frozen (p := ⟨w1.heap.size, 4, none⟩) (by dsimp only; omega)).trans ((hb3.frozen (p := ⟨w1.heap.size, 4, none⟩) hl2).trans (hf2 4))
  have hB4 := HB2.out.trans ((hb3.mono HB2.out.size).trans (b34.mono (Nat.le_trans HB2.out.size hz3)))
  have HB5 := Lib.hid (hB4.setCell (p := ⟨w1.heap.size, 4, none⟩) (show w.heap.size ≤ w1.heap.size from HB1.out.size) (.string y))
  have hkw : 0 < w.heap.size := World.block_lt_of_cell? w _ (HK.out 0 (by omega))
  have hK5 : KTab (w4.setCell ⟨w1.heap.size, 4, none⟩ (.string y)) := HK.out.belowB HB5.out hkw
  clear hc2 hf2 hb3 b5 hb4 b34 hc4 hB4 hK1 hK2 hK3 hK4
  go_wp2_with fail
  refine (H2.out _ hK5).mono ?_
  rintro e w5 ⟨rfl, hb5⟩
  go_wp2
  go_ret
  exact ⟨rfl, HB5.out.trans (hb5.mono HB5.out.size)⟩
end Go.Proofs.YtfbopnebfdkhdaaDoor
