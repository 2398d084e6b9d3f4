/- Contract of ssz.Check at a branch of two and the place 2. -/
import Derived.Test.YtpfmdhcmhcoddaaGreatDoorHedA
namespace Go.Proofs.YtpfmdhcmhcoddaaGreatDoor
open Go.RowKit Go.Shelf Go.Lib

/-- does a branch of two lead from a leaf at the place 2 to a root? -/
def check2 (leaf s0 s1 root : ByteArray) : Bool := decide (leaf.size = 32) && (decide (root.size = 32) && (decide (s0.size = 32) && (decide (s1.size = 32) && (hash2 s1 (hash2 leaf s0)).toList == root.toList)))
theorem isChunk_is {s : ByteArray} {b : Bool} (h : decide (s.size = 32) = b) (w : World) : Calls Tryz.prog 186 #[.string s] w fun e w' => e = .returned (.bool b) ∧ w' = w := by
  rw [← h]; exact isChunk_any s w

set_option maxRecDepth 100000 in
set_option maxHeartbeats 3200000 in
theorem check2_good (v : Value) (leaf s0 s1 root : ByteArray) (w : World) (hv : Strs w v [s0, s1]) (h1 : leaf.size = 32) (h2 : root.size = 32) (h3 : s0.size = 32) (h4 : s1.size = 32) (hK : KTab w) :
    Calls Tryz.prog 120 #[.string leaf, v, .int .u64 2, .string root] w fun e w' => e = .returned (.bool ((hash2 s1 (hash2 leaf s0)).toList == root.toList)) ∧ Below w.heap.size w w' := by
  have H1 := Lib.hid (fun W => isChunk_is (decide_eq_true h1) W)
  have H2 := Lib.hid (fun W => isChunk_is (decide_eq_true h2) W)
  have H3 := Lib.hid (fun W => isChunk_is (decide_eq_true h3) W)
  have H4 := Lib.hid (fun W => isChunk_is (decide_eq_true h4) W)
  have HV := Lib.hid hv
  have HK := Lib.hid hK
  have hl0 : leaf.size ≤ 1048576 := by omega
  have hl1 : s0.size ≤ 1048576 := by omega
  have hl2 : s1.size ≤ 1048576 := by omega
  obtain ⟨p, c, rfl, -, h | ⟨bk, o, rfl, hk, hat⟩⟩ := hv
  · cases h
  · have c0 : w.cell? ⟨bk, o, none⟩ = some (.string s0) := by simpa using hat 0 s0 rfl
    have c1 : w.cell? ⟨bk, o + 1, none⟩ = some (.string s1) := hat 1 s1 rfl
    clear hat h1 h2 h3 h4 hK
    obtain ⟨x, hx⟩ : ∃ x, hash2 leaf s0 = x := ⟨_, rfl⟩
    have hxs : x.size ≤ 1048576 := by rw [← hx, hash2_size]; omega
    rw [hx]
    have HX := Lib.hid hx
    clear hx
    obtain ⟨y, hy⟩ : ∃ y, hash2 s1 x = y := ⟨_, rfl⟩
    rw [hy]
    have HY := Lib.hid hy
    clear hy
    go_enter Tryz.func120, Tryz.ntmps120
    go_wp2_with fail
    refine (H1.out _).mono ?_
    rintro e w1 ⟨rfl, rfl⟩
    go_wp2_with fail
    refine (H2.out _).mono ?_
    rintro e w2 ⟨rfl, rfl⟩
    go_wp2
    go_loopw [0, 2, 33] (fun t n i wr => Below w2.heap.size w2 wr ∧ ((t = .string leaf ∧ n = .int .u64 2 ∧ i = .int .i64 0) ∨ (t = .string x ∧ n = .int .u64 1 ∧ i = .int .i64 1) ∨ (t = .string y ∧ n = .int .u64 0 ∧ i = .int .i64 2))) (fun _ _ i _ => 2 - (RowKit.intOf i).toNat)
    case atStart => exact ⟨Below.refl _ _, .inl ⟨rfl, rfl, rfl⟩⟩
    case round =>
      obtain ⟨hB, h⟩ := hrel
      have d0 := (hB.cell (p := ⟨bk, o, none⟩) hk).trans c0
      have d1 := (hB.cell (p := ⟨bk, o + 1, none⟩) hk).trans c1
      have hKr := HK.out.below hB
      have HB := Lib.hid hB
      clear hB
      rcases h with ⟨rfl, rfl, rfl⟩ | ⟨rfl, rfl, rfl⟩ | ⟨rfl, rfl, rfl⟩
      · have hS := Lib.hid (sum2_any leaf s0 wr _ (.inl rfl) hl0 hl1 hKr)
        rw [HX.out] at hS
        go_wp2_with fail
        refine (H3.out _).mono ?_
        rintro e w3 ⟨rfl, rfl⟩
        go_wp2_with fail
        refine hS.out.mono ?_
        rintro e w4 ⟨rfl, hb4⟩
        go_wp2
        refine ⟨⟨(HB.out.alloc HB.out.size _).trans (hb4.mono (by have := HB.out.size; simp; omega)), .inr (.inl ⟨rfl, rfl, rfl⟩)⟩, by simp [RowKit.intOf]⟩
      · have hS := Lib.hid (sum2_any s1 x wr _ (.inl rfl) hl2 hxs hKr)
        rw [HY.out] at hS
        go_wp2_with fail
        refine (H4.out _).mono ?_
        rintro e w3 ⟨rfl, rfl⟩
        go_wp2_with fail
        refine hS.out.mono ?_
        rintro e w4 ⟨rfl, hb4⟩
        go_wp2
        refine ⟨⟨(HB.out.alloc HB.out.size _).trans (hb4.mono (by have := HB.out.size; simp; omega)), .inr (.inr ⟨rfl, rfl, rfl⟩)⟩, by simp [RowKit.intOf]⟩
      · clear d0 d1
        go_wp2
        go_ret
        exact ⟨rfl, HB.out⟩
set_option maxRecDepth 100000 in
set_option maxHeartbeats 3200000 in
theorem check2_root (v : Value) (leaf s0 s1 root : ByteArray) (w : World) (hv : Strs w v [s0, s1]) (h1 : leaf.size = 32) (h2 : ¬ root.size = 32) :
    Calls Tryz.prog 120 #[.string leaf, v, .int .u64 2, .string root] w fun e w' => e = .returned (.bool false) ∧ Below w.heap.size w w' := by
  have H1 := Lib.hid (fun W => isChunk_is (decide_eq_true h1) W)
  have H2 := Lib.hid (fun W => isChunk_is (decide_eq_false h2) W)
  obtain ⟨p, c, rfl, -⟩ := hv
  clear h1 h2
  go_enter Tryz.func120, Tryz.ntmps120
  go_wp2_with fail
  refine (H1.out _).mono ?_
  rintro e w1 ⟨rfl, rfl⟩
  go_wp2_with fail
  refine (H2.out _).mono ?_
  rintro e w2 ⟨rfl, rfl⟩
  go_wp2
  go_ret
  exact ⟨rfl, Below.refl _ _⟩
set_option maxRecDepth 100000 in
set_option maxHeartbeats 3200000 in
theorem check2_first (v : Value) (leaf s0 s1 root : ByteArray) (w : World) (hv : Strs w v [s0, s1]) (h1 : leaf.size = 32) (h2 : root.size = 32) (h3 : ¬ s0.size = 32) :
    Calls Tryz.prog 120 #[.string leaf, v, .int .u64 2, .string root] w fun e w' => e = .returned (.bool false) ∧ Below w.heap.size w w' := by
  have H1 := Lib.hid (fun W => isChunk_is (decide_eq_true h1) W)
  have H2 := Lib.hid (fun W => isChunk_is (decide_eq_true h2) W)
  have H3 := Lib.hid (fun W => isChunk_is (decide_eq_false h3) W)
  obtain ⟨p, c, rfl, -, h | ⟨bk, o, rfl, hk, hat⟩⟩ := hv
  · cases h
  · have c0 : w.cell? ⟨bk, o, none⟩ = some (.string s0) := by simpa using hat 0 s0 rfl
    clear hat h1 h2 h3
    go_enter Tryz.func120, Tryz.ntmps120
    go_wp2_with fail
    refine (H1.out _).mono ?_
    rintro e w1 ⟨rfl, rfl⟩
    go_wp2_with fail
    refine (H2.out _).mono ?_
    rintro e w2 ⟨rfl, rfl⟩
    go_wp2
    go_loopw [0, 2, 33] (fun t n i wr => t = .string leaf ∧ n = .int .u64 2 ∧ i = .int .i64 0 ∧ wr = w2) (fun _ _ i _ => 2 - (RowKit.intOf i).toNat)
    case atStart => exact ⟨rfl, rfl, rfl, rfl⟩
    case round =>
      obtain ⟨rfl, rfl, rfl, rfl⟩ := hrel
      go_wp2_with fail
      refine (H3.out _).mono ?_
      rintro e w3 ⟨rfl, rfl⟩
      go_wp2
      go_ret
      exact ⟨rfl, Below.refl _ _⟩
set_option maxRecDepth 100000 in
set_option maxHeartbeats 3200000 in
theorem check2_second (v : Value) (leaf s0 s1 root : ByteArray) (w : World) (hv : Strs w v [s0, s1]) (h1 : leaf.size = 32) (h2 : root.size = 32) (h3 : s0.size = 32) (h4 : ¬ s1.size = 32) (hK : KTab w) :
    Calls Tryz.prog 120 #[.string leaf, v, .int .u64 2, .string root] w fun e w' => e = .returned (.bool false) ∧ Below w.heap.size w w' := by
  have H1 := Lib.hid (fun W => isChunk_is (decide_eq_true h1) W)
  have H2 := Lib.hid (fun W => isChunk_is (decide_eq_true h2) W)
  have H3 := Lib.hid (fun W => isChunk_is (decide_eq_true h3) W)
  have H4 := Lib.hid (fun W => isChunk_is (decide_eq_false h4) W)
  have HV := Lib.hid hv
  have HK := Lib.hid hK
  have hl0 : leaf.size ≤ 1048576 := by omega
  have hl1 : s0.size ≤ 1048576 := by omega
  obtain ⟨p, c, rfl, -, h | ⟨bk, o, rfl, hk, hat⟩⟩ := hv
  · cases h
  · have c0 : w.cell? ⟨bk, o, none⟩ = some (.string s0) := by simpa using hat 0 s0 rfl
    have c1 : w.cell? ⟨bk, o + 1, none⟩ = some (.string s1) := hat 1 s1 rfl
    clear hat h1 h2 h3 h4 hK
    obtain ⟨x, hx⟩ : ∃ x, hash2 leaf s0 = x := ⟨_, rfl⟩
    have HX := Lib.hid hx
    clear hx
    go_enter Tryz.func120, Tryz.ntmps120
    go_wp2_with fail
    refine (H1.out _).mono ?_
    rintro e w1 ⟨rfl, rfl⟩
    go_wp2_with fail
    refine (H2.out _).mono ?_
    rintro e w2 ⟨rfl, rfl⟩
    go_wp2
    go_loopw [0, 2, 33] (fun t n i wr => Below w2.heap.size w2 wr ∧ ((t = .string leaf ∧ n = .int .u64 2 ∧ i = .int .i64 0) ∨ (t = .string x ∧ n = .int .u64 1 ∧ i = .int .i64 1))) (fun _ _ i _ => 2 - (RowKit.intOf i).toNat)
    case atStart => exact ⟨Below.refl _ _, .inl ⟨rfl, rfl, rfl⟩⟩
    case round =>
      obtain ⟨hB, h⟩ := hrel
      have d0 := (hB.cell (p := ⟨bk, o, none⟩) hk).trans c0
      have d1 := (hB.cell (p := ⟨bk, o + 1, none⟩) hk).trans c1
      have hKr := HK.out.below hB
      have HB := Lib.hid hB
      clear hB
      rcases h with ⟨rfl, rfl, rfl⟩ | ⟨rfl, rfl, rfl⟩
      · have hS := Lib.hid (sum2_any leaf s0 wr _ (.inl rfl) hl0 hl1 hKr)
        rw [HX.out] at hS
        go_wp2_with fail
        refine (H3.out _).mono ?_
        rintro e w3 ⟨rfl, rfl⟩
        go_wp2_with fail
        refine hS.out.mono ?_
        rintro e w4 ⟨rfl, hb4⟩
        go_wp2
        refine ⟨⟨(HB.out.alloc HB.out.size _).trans (hb4.mono (by have := HB.out.size; simp; omega)), .inr ⟨rfl, rfl, rfl⟩⟩, by simp [RowKit.intOf]⟩
      · go_wp2_with fail
        refine (H4.out _).mono ?_
        rintro e w3 ⟨rfl, rfl⟩
        go_wp2
        go_ret
        exact ⟨rfl, HB.out⟩
theorem check2_any (v : Value) (leaf s0 s1 root : ByteArray) (w : World) (hv : Strs w v [s0, s1]) (h1 : leaf.size = 32) (hK : KTab w) :
    Calls Tryz.prog 120 #[.string leaf, v, .int .u64 2, .string root] w fun e w' => e = .returned (.bool (check2 leaf s0 s1 root)) ∧ Below w.heap.size w w' := by
  unfold check2
  rw [decide_eq_true h1]
  by_cases h2 : root.size = 32
  · rw [decide_eq_true h2]
    by_cases h3 : s0.size = 32
    · rw [decide_eq_true h3]
      by_cases h4 : s1.size = 32
      · rw [decide_eq_true h4]; exact check2_good v leaf s0 s1 root w hv h1 h2 h3 h4 hK
      · rw [decide_eq_false h4]; exact check2_second v leaf s0 s1 root w hv h1 h2 h3 h4 hK
    · rw [decide_eq_false h3]; exact check2_first v leaf s0 s1 root w hv h1 h2 h3
  · rw [decide_eq_false h2]; exact check2_root v leaf s0 s1 root w hv h1 h2
end Go.Proofs.YtpfmdhcmhcoddaaGreatDoor
