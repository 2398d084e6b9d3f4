/- Contract of the reference's bytes as a word. -/
import Derived.Test.YtmjblnhnadffmaaDoorWrdB
namespace Go.Proofs.YtmjblnhnadffmaaDoor
open Go.RowKit Go.Lib

/-- a byte comes in below: the limbs -/
theorem limb_down {u b n k : Nat} (hb : b < 256) (h : k ≠ n / 8) : limb (u * 256 ^ (n + 1) + b * 256 ^ n) k = limb (u * 256 ^ (n + 1)) k := by
  unfold limb
  rcases Nat.lt_or_ge k (n / 8) with h1 | h1
  · obtain ⟨m, hm⟩ : ∃ m, n = 8 * k + (m + 8) := ⟨n - 8 * k - 8, by omega⟩
    have e : u * 256 ^ (n + 1) + b * 256 ^ n = 256 ^ (8 * k) * (256 ^ 8 * (256 ^ m * (u * 256 + b))) := by
      rw [hm, Nat.pow_succ, Nat.pow_add, Nat.pow_add]
      generalize 256 ^ (8 * k) = A, 256 ^ m = B, 256 ^ 8 = C
      grind
    have e2 : u * 256 ^ (n + 1) = 256 ^ (8 * k) * (256 ^ 8 * (256 ^ m * (u * 256))) := by
      rw [hm, Nat.pow_succ, Nat.pow_add, Nat.pow_add]
      generalize 256 ^ (8 * k) = A, 256 ^ m = B, 256 ^ 8 = C
      grind
    rw [e, e2, Nat.mul_div_cancel_left _ (Nat.pow_pos (by decide)), Nat.mul_div_cancel_left _ (Nat.pow_pos (by decide)), Nat.mul_mod_right, Nat.mul_mod_right]
  · have h2 : n + 1 ≤ 8 * k := by omega
    obtain ⟨m, hm⟩ : ∃ m, 8 * k = (n + 1) + m := ⟨8 * k - (n + 1), by omega⟩
    have h3 : b * 256 ^ n < 256 ^ (n + 1) := by
      rw [Nat.pow_succ, Nat.mul_comm]; exact Nat.mul_lt_mul_of_pos_left hb (Nat.pow_pos (by decide))
    rw [hm, Nat.pow_add (m := n + 1), ← Nat.div_div_eq_div_mul, ← Nat.div_div_eq_div_mul, Nat.mul_comm u, Nat.mul_add_div (Nat.pow_pos (by decide)), Nat.div_eq_of_lt h3, Nat.mul_div_cancel_left _ (Nat.pow_pos (by decide)), Nat.add_zero]
theorem limb_in {u b j r : Nat} (hb : b < 256) (hr : r < 8) : ∃ x, limb (u * 256 ^ (8 * j + r + 1)) j = x * 256 ^ (r + 1) ∧ limb (u * 256 ^ (8 * j + r + 1) + b * 256 ^ (8 * j + r)) j = x * 256 ^ (r + 1) + b * 256 ^ r ∧ x * 256 ^ (r + 1) + b * 256 ^ r < 18446744073709551616 := by
  refine ⟨u % 256 ^ (7 - r), ?_⟩
  unfold limb
  have h8 : (256 : Nat) ^ 8 = 256 ^ (r + 1) * 256 ^ (7 - r) := by rw [← Nat.pow_add]; congr 1; omega
  have e1 : u * 256 ^ (8 * j + r + 1) = 256 ^ (8 * j) * (256 ^ (r + 1) * u) := by
    rw [show 8 * j + r + 1 = 8 * j + (r + 1) from by omega, Nat.pow_add]
    generalize 256 ^ (8 * j) = A, 256 ^ (r + 1) = B
    grind
  have e2 : b * 256 ^ (8 * j + r) = 256 ^ (8 * j) * (b * 256 ^ r) := by
    rw [Nat.pow_add]; simp only [Nat.mul_left_comm]
  have h3 : b * 256 ^ r < 256 ^ (r + 1) := by
    rw [Nat.pow_succ, Nat.mul_comm]; exact Nat.mul_lt_mul_of_pos_left hb (Nat.pow_pos (by decide))
  have hm : u % 256 ^ (7 - r) < 256 ^ (7 - r) := Nat.mod_lt _ (Nat.pow_pos (by decide))
  have hlt : u % 256 ^ (7 - r) * 256 ^ (r + 1) + b * 256 ^ r < 256 ^ 8 := by
    have h4 : (u % 256 ^ (7 - r) + 1) * 256 ^ (r + 1) ≤ 256 ^ (7 - r) * 256 ^ (r + 1) := Nat.mul_le_mul_right _ hm
    rw [Nat.add_mul, Nat.one_mul] at h4
    rw [h8, Nat.mul_comm (256 ^ (r + 1))]
    omega
  have e3 : 256 ^ (r + 1) * u % 256 ^ 8 = u % 256 ^ (7 - r) * 256 ^ (r + 1) := by
    rw [h8, Nat.mul_mod_mul_left, Nat.mul_comm]
  rw [e1, e2, ← Nat.mul_add, Nat.mul_div_cancel_left _ (Nat.pow_pos (by decide)), Nat.mul_div_cancel_left _ (Nat.pow_pos (by decide))]
  refine ⟨e3, ?_, by rw [p8] at hlt; exact hlt⟩
  rw [Nat.add_mod, e3, Nat.mod_eq_of_lt (a := b * 256 ^ r) (Nat.lt_of_le_of_lt (Nat.le_add_left _ _) hlt), Nat.mod_eq_of_lt hlt]
theorem or_down {u b k j r : Nat} {P : Int} (hk : k = 8 * j + r) (hr : r < 8) (hb : b < 256) (hP : P = ((256 ^ r : Nat) : Int)) :
    bits .or .u64 (limb (u * 256 ^ (k + 1)) j : Nat) (IntKind.u64.wrap (IntKind.u64.wrap (b : Nat) * P)) = ((limb (u * 256 ^ (k + 1) + b * 256 ^ k) j : Nat) : Int) := by
  subst hk hP
  obtain ⟨x, h1, h2, h3⟩ := limb_in (u := u) (j := j) hb hr
  rw [u64_wrapN b (by omega), ← Int.natCast_mul, u64_wrapN _ (byte_pow b r hb hr), h1, h2]
  rw [(bits_nat .u64 64 (by decide) (by intro y h0 h1; rw [IntKind.wrap_u64]; omega) (x * 256 ^ (r + 1)) (b * 256 ^ r) (by omega) (by omega)).2]
  have h4 : b * 256 ^ r < 2 ^ (8 * (r + 1)) := by
    rw [Nat.pow_mul, show (2 : Nat) ^ 8 = 256 from rfl, Nat.pow_succ, Nat.mul_comm]; exact Nat.mul_lt_mul_of_pos_left hb (Nat.pow_pos (by decide))
  have e := Nat.shiftLeft_add_eq_or_of_lt h4 x
  rw [Nat.shiftLeft_eq, Nat.pow_mul, show (2 : Nat) ^ 8 = 256 from rfl] at e
  rw [e]
theorem or_down0 {u b k j : Nat} (hk : k = 8 * j) (hb : b < 256) :
    bits .or .u64 (limb (u * 256 ^ (k + 1)) j : Nat) (IntKind.u64.wrap (IntKind.u64.wrap (b : Nat))) = ((limb (u * 256 ^ (k + 1) + b * 256 ^ k) j : Nat) : Int) := by
  have := or_down (u := u) (r := 0) (P := 1) (j := j) (k := k) (by omega) (by omega) hb (by simp)
  rwa [Int.mul_one] at this
theorem down_step {w0 : World} {wr : World} {g u b k j : Nat} {x : Value} (hB : Below w0.heap.size w0 wr) (hg : w0.heap.size ≤ g) (hb0 : Box4 wr g 0) (hbx : Box4 wr (g + 1) (u * 256 ^ (k + 1))) (hk : k / 8 = j) (hk3 : k < 32) (hb : b < 256)
    (hx : x = .int .u64 (limb (u * 256 ^ (k + 1) + b * 256 ^ k) j : Nat)) :
    Below w0.heap.size w0 (wr.setCell ⟨g + 1, j, none⟩ x).drew ∧ Box4 (wr.setCell ⟨g + 1, j, none⟩ x).drew g 0 ∧ Box4 (wr.setCell ⟨g + 1, j, none⟩ x).drew (g + 1) (u * 256 ^ (k + 1) + b * 256 ^ k) := by
  refine ⟨(hB.setCell (p := ⟨g + 1, j, none⟩) (show w0.heap.size ≤ g + 1 by omega) _).drew, ?_, ?_⟩
  · have : Box4 (wr.setCell ⟨g + 1, j, none⟩ x) g 0 := by
      obtain ⟨h0, h1, h2, h3, h4⟩ := hb0
      have ne : ∀ i, (⟨g + 1, j, none⟩ : Addr) ≠ ⟨g, i, none⟩ := fun i e => by simp at e
      exact ⟨(World.cell?_setCell_other _ _ _ _ (ne 0)).trans h0, (World.cell?_setCell_other _ _ _ _ (ne 1)).trans h1, (World.cell?_setCell_other _ _ _ _ (ne 2)).trans h2, (World.cell?_setCell_other _ _ _ _ (ne 3)).trans h3, fun i => by rw [World.frozen?_setCell]; exact h4 i⟩
    exact this.kept rfl
  · have := Box4.set (u := u * 256 ^ (k + 1) + b * 256 ^ k) hbx x (k := j) (by omega) hx (fun i hi => limb_down hb (by omega))
    exact this.kept rfl

set_option maxRecDepth 100000 in
set_option maxHeartbeats 6400000 in
theorem wordFromRef_any (S : ByteArray) (w : World) (hs : S.size ≤ 1099511627776) :
    Calls Tryd.prog 55 #[.string S] w fun e w' => e = .returned (wordV (wordOf S.data.toList)) ∧ Below w.heap.size w w' := by
  have hl : S.data.toList.length = S.size := rfl
  have HL := Lib.hid hl
  clear hl
  go_enter Tryd.func55, Tryd.ntmps55
  go_wp2
  obtain ⟨T, hT⟩ : ∃ T, S.extract (max 0 ((S.size : Int) - 32)).toNat S.size = T := ⟨_, rfl⟩
  rw [hT]
  have hTl : T.data.toList = lastN 32 S.data.toList := by
    rw [← hT]
    unfold lastN
    have e : (max 0 ((S.size : Int) - 32)).toNat = S.data.toList.length - 32 := by rw [HL.out]; omega
    rw [e]
    simp [HL.out]
    rw [List.take_of_length_le (by rw [List.length_drop, HL.out]; exact Nat.le_refl _)]
  have hTs : T.data.toList.length = T.size := rfl
  have hM : T.size ≤ 32 := by rw [← hTs, hTl, lastN_length]; omega
  have HT := Lib.hid hTl
  have HTS := Lib.hid hTs
  clear hT hTl hTs
  go_loopw [4] (fun i wr => ∃ n : Nat, n ≤ T.size ∧ i = .int .i64 n ∧ Below w.heap.size w wr ∧ Box4 wr w.heap.size 0 ∧ Box4 wr (w.heap.size + 1) (val (T.data.toList.take n) * 256 ^ (T.size - n))) (fun i _ => T.size - (RowKit.intOf i).toNat)
  case atStart =>
    refine ⟨0, by omega, rfl, ((Below.refl _ _).alloc (Nat.le_refl _) _).alloc (by simp) _, ?_, ?_⟩
    · exact (Box4.new w 0 24).kept (Below.heap_alloc _ _ _ (by simp))
    · have := Box4.new (w.alloc (.cells #[.int .u64 0, .int .u64 0, .int .u64 0, .int .u64 0] 24)) 0 24
      rw [List.take_zero, val_nil, Nat.zero_mul]
      simpa [limb_zero] using this
  case round =>
    obtain ⟨n, hn, rfl, hB, hb0, hb1⟩ := hrel
    by_cases hlt : n < T.size
    · obtain ⟨b, hb⟩ : ∃ b, T[n] = b := ⟨_, rfl⟩
      obtain ⟨kk, hkk⟩ : ∃ kk, kk = T.size - 1 - n := ⟨_, rfl⟩
      obtain ⟨u, hu⟩ : ∃ u, val (T.data.toList.take n) = u := ⟨_, rfl⟩
      rw [hu, show T.size - n = kk + 1 from by omega] at hb1
      have hnx : val (T.data.toList.take (n + 1)) * 256 ^ (T.size - (n + 1)) = u * 256 ^ (kk + 1) + b.toNat * 256 ^ kk := by
        rw [take_snoc T n hlt, val_snoc, hu, hb, show T.size - (n + 1) = kk from by omega, Nat.pow_succ]
        generalize 256 ^ kk = A
        grind
      have Hbx := Lib.hid hb1
      obtain ⟨c0, c1, c2, c3, c4⟩ := hb1
      obtain ⟨x0, hx0⟩ : ∃ x, limb (u * 256 ^ (kk + 1)) 0 = x := ⟨_, rfl⟩
      obtain ⟨x1, hx1⟩ : ∃ x, limb (u * 256 ^ (kk + 1)) 1 = x := ⟨_, rfl⟩
      obtain ⟨x2, hx2⟩ : ∃ x, limb (u * 256 ^ (kk + 1)) 2 = x := ⟨_, rfl⟩
      obtain ⟨x3, hx3⟩ : ∃ x, limb (u * 256 ^ (kk + 1)) 3 = x := ⟨_, rfl⟩
      rw [hx0] at c0
      rw [hx1] at c1
      rw [hx2] at c2
      rw [hx3] at c3
      have HX := Lib.hid (And.intro hx0 (And.intro hx1 (And.intro hx2 hx3)))
      have hsz := hb0.lt
      have Hb0 := Lib.hid hb0
      have Hnx := Lib.hid hnx
      have HB := Lib.hid hB
      have hni : (n : Int) < T.size := by omega
      have f0 := c4 0
      have f1 := c4 1
      have f2 := c4 2
      have f3 := c4 3
      have hk32 : kk < 32 := by omega
      have hkn : (T.size : Int) - 1 - n = kk := by omega
      have hkw : (T.size : Int) - 1 = kk + n := by omega
      clear hb0 c4 hnx hB hx0 hx1 hx2 hx3 hu
      have z0 : IntKind.i64.wrap 0 = 0 := by decide
      have z1 : IntKind.i64.wrap 1 = 1 := by decide
      have z2 : IntKind.i64.wrap 2 = 2 := by decide
      have z3 : IntKind.i64.wrap 3 = 3 := by decide
      have z4 : IntKind.i64.wrap 4 = 4 := by decide
      have z5 : IntKind.i64.wrap 5 = 5 := by decide
      have z6 : IntKind.i64.wrap 6 = 6 := by decide
      have z7 : IntKind.i64.wrap 7 = 7 := by decide
      have z8 : IntKind.i64.wrap 8 = 8 := by decide
      have z16 : IntKind.i64.wrap 16 = 16 := by decide
      have z24 : IntKind.i64.wrap 24 = 24 := by decide
      have z32 : IntKind.i64.wrap 32 = 32 := by decide
      have z40 : IntKind.i64.wrap 40 = 40 := by decide
      have z48 : IntKind.i64.wrap 48 = 48 := by decide
      have z56 : IntKind.i64.wrap 56 = 56 := by decide
      obtain ⟨q, hq⟩ : ∃ q, q = kk := ⟨_, rfl⟩
      have HQ := Lib.hid hq
      rw [← hq] at Hnx Hbx HX
      clear hkk hq
      rcases (by omega : kk = 0 ∨ kk = 1 ∨ kk = 2 ∨ kk = 3 ∨ kk = 4 ∨ kk = 5 ∨ kk = 6 ∨ kk = 7 ∨ kk = 8 ∨ kk = 9 ∨ kk = 10 ∨ kk = 11 ∨ kk = 12 ∨ kk = 13 ∨ kk = 14 ∨ kk = 15 ∨ kk = 16 ∨ kk = 17 ∨ kk = 18 ∨ kk = 19 ∨ kk = 20 ∨ kk = 21 ∨ kk = 22 ∨ kk = 23 ∨ kk = 24 ∨ kk = 25 ∨ kk = 26 ∨ kk = 27 ∨ kk = 28 ∨ kk = 29 ∨ kk = 30 ∨ kk = 31) with rfl | rfl | rfl | rfl | rfl | rfl | rfl | rfl | rfl | rfl | rfl | rfl | rfl | rfl | rfl | rfl | rfl | rfl | rfl | rfl | rfl | rfl | rfl | rfl | rfl | rfl | rfl | rfl | rfl | rfl | rfl | rfl
      · rw [show ((0 : Nat) : Int) = 0 from rfl] at hkn
        go_wp2
        go_still_tail 15, (by kernel_rfl)
        change wpList _ _ _ _ _ wr.drew
        go_wp2
        refine ⟨⟨n + 1, by omega, rfl, ?_⟩, by simp [RowKit.intOf]; omega⟩
        rw [Hnx.out]
        exact down_step HB.out (Nat.le_refl _) Hb0.out Hbx.out (by rw [HQ.out]) (by have := HQ.out; omega) b.toNat_lt (congrArg (Value.int .u64) (by rw [← HX.out.1]; exact or_down0 (j := 0) (u := u) (b := b.toNat) (k := q) (by have := HQ.out; omega) b.toNat_lt))
      · rw [show ((1 : Nat) : Int) = 1 from rfl] at hkn
        go_wp2
        go_still_tail 15, (by kernel_rfl)
        change wpList _ _ _ _ _ wr.drew
        go_wp2
        refine ⟨⟨n + 1, by omega, rfl, ?_⟩, by simp [RowKit.intOf]; omega⟩
        rw [Hnx.out]
        exact down_step HB.out (Nat.le_refl _) Hb0.out Hbx.out (by rw [HQ.out]) (by have := HQ.out; omega) b.toNat_lt (congrArg (Value.int .u64) (by rw [← HX.out.1]; exact or_down (j := 0) (r := 1) (u := u) (b := b.toNat) (k := q) (P := 256) (by have := HQ.out; omega) (by omega) b.toNat_lt rfl))
      · rw [show ((2 : Nat) : Int) = 2 from rfl] at hkn
        go_wp2
        go_still_tail 15, (by kernel_rfl)
        change wpList _ _ _ _ _ wr.drew
        go_wp2
        refine ⟨⟨n + 1, by omega, rfl, ?_⟩, by simp [RowKit.intOf]; omega⟩
        rw [Hnx.out]
        exact down_step HB.out (Nat.le_refl _) Hb0.out Hbx.out (by rw [HQ.out]) (by have := HQ.out; omega) b.toNat_lt (congrArg (Value.int .u64) (by rw [← HX.out.1]; exact or_down (j := 0) (r := 2) (u := u) (b := b.toNat) (k := q) (P := 65536) (by have := HQ.out; omega) (by omega) b.toNat_lt rfl))
      · rw [show ((3 : Nat) : Int) = 3 from rfl] at hkn
        go_wp2
        go_still_tail 15, (by kernel_rfl)
        change wpList _ _ _ _ _ wr.drew
        go_wp2
        refine ⟨⟨n + 1, by omega, rfl, ?_⟩, by simp [RowKit.intOf]; omega⟩
        rw [Hnx.out]
        exact down_step HB.out (Nat.le_refl _) Hb0.out Hbx.out (by rw [HQ.out]) (by have := HQ.out; omega) b.toNat_lt (congrArg (Value.int .u64) (by rw [← HX.out.1]; exact or_down (j := 0) (r := 3) (u := u) (b := b.toNat) (k := q) (P := 16777216) (by have := HQ.out; omega) (by omega) b.toNat_lt rfl))
      · rw [show ((4 : Nat) : Int) = 4 from rfl] at hkn
        go_wp2
        go_still_tail 15, (by kernel_rfl)
        change wpList _ _ _ _ _ wr.drew
        go_wp2
        refine ⟨⟨n + 1, by omega, rfl, ?_⟩, by simp [RowKit.intOf]; omega⟩
        rw [Hnx.out]
        exact down_step HB.out (Nat.le_refl _) Hb0.out Hbx.out (by rw [HQ.out]) (by have := HQ.out; omega) b.toNat_lt (congrArg (Value.int .u64) (by rw [← HX.out.1]; exact or_down (j := 0) (r := 4) (u := u) (b := b.toNat) (k := q) (P := 4294967296) (by have := HQ.out; omega) (by omega) b.toNat_lt rfl))
      · rw [show ((5 : Nat) : Int) = 5 from rfl] at hkn
        go_wp2
        go_still_tail 15, (by kernel_rfl)
        change wpList _ _ _ _ _ wr.drew
        go_wp2
        refine ⟨⟨n + 1, by omega, rfl, ?_⟩, by simp [RowKit.intOf]; omega⟩
        rw [Hnx.out]
        exact down_step HB.out (Nat.le_refl _) Hb0.out Hbx.out (by rw [HQ.out]) (by have := HQ.out; omega) b.toNat_lt (congrArg (Value.int .u64) (by rw [← HX.out.1]; exact or_down (j := 0) (r := 5) (u := u) (b := b.toNat) (k := q) (P := 1099511627776) (by have := HQ.out; omega) (by omega) b.toNat_lt rfl))
      · rw [show ((6 : Nat) : Int) = 6 from rfl] at hkn
        go_wp2
        go_still_tail 15, (by kernel_rfl)
        change wpList _ _ _ _ _ wr.drew
        go_wp2
        refine ⟨⟨n + 1, by omega, rfl, ?_⟩, by simp [RowKit.intOf]; omega⟩
        rw [Hnx.out]
        exact down_step HB.out (Nat.le_refl _) Hb0.out Hbx.out (by rw [HQ.out]) (by have := HQ.out; omega) b.toNat_lt (congrArg (Value.int .u64) (by rw [← HX.out.1]; exact or_down (j := 0) (r := 6) (u := u) (b := b.toNat) (k := q) (P := 281474976710656) (by have := HQ.out; omega) (by omega) b.toNat_lt rfl))
      · rw [show ((7 : Nat) : Int) = 7 from rfl] at hkn
        go_wp2
        go_still_tail 15, (by kernel_rfl)
        change wpList _ _ _ _ _ wr.drew
        go_wp2
        refine ⟨⟨n + 1, by omega, rfl, ?_⟩, by simp [RowKit.intOf]; omega⟩
        rw [Hnx.out]
        exact down_step HB.out (Nat.le_refl _) Hb0.out Hbx.out (by rw [HQ.out]) (by have := HQ.out; omega) b.toNat_lt (congrArg (Value.int .u64) (by rw [← HX.out.1]; exact or_down (j := 0) (r := 7) (u := u) (b := b.toNat) (k := q) (P := 72057594037927936) (by have := HQ.out; omega) (by omega) b.toNat_lt rfl))
      · rw [show ((8 : Nat) : Int) = 8 from rfl] at hkn
        go_wp2
        go_still_tail 15, (by kernel_rfl)
        change wpList _ _ _ _ _ wr.drew
        go_wp2
        refine ⟨⟨n + 1, by omega, rfl, ?_⟩, by simp [RowKit.intOf]; omega⟩
        rw [Hnx.out]
        exact down_step HB.out (Nat.le_refl _) Hb0.out Hbx.out (by rw [HQ.out]) (by have := HQ.out; omega) b.toNat_lt (congrArg (Value.int .u64) (by rw [← HX.out.2.1]; exact or_down0 (j := 1) (u := u) (b := b.toNat) (k := q) (by have := HQ.out; omega) b.toNat_lt))
      · rw [show ((9 : Nat) : Int) = 9 from rfl] at hkn
        go_wp2
        go_still_tail 15, (by kernel_rfl)
        change wpList _ _ _ _ _ wr.drew
        go_wp2
        refine ⟨⟨n + 1, by omega, rfl, ?_⟩, by simp [RowKit.intOf]; omega⟩
        rw [Hnx.out]
        exact down_step HB.out (Nat.le_refl _) Hb0.out Hbx.out (by rw [HQ.out]) (by have := HQ.out; omega) b.toNat_lt (congrArg (Value.int .u64) (by rw [← HX.out.2.1]; exact or_down (j := 1) (r := 1) (u := u) (b := b.toNat) (k := q) (P := 256) (by have := HQ.out; omega) (by omega) b.toNat_lt rfl))
      · rw [show ((10 : Nat) : Int) = 10 from rfl] at hkn
        go_wp2
        go_still_tail 15, (by kernel_rfl)
        change wpList _ _ _ _ _ wr.drew
        go_wp2
        refine ⟨⟨n + 1, by omega, rfl, ?_⟩, by simp [RowKit.intOf]; omega⟩
        rw [Hnx.out]
        exact down_step HB.out (Nat.le_refl _) Hb0.out Hbx.out (by rw [HQ.out]) (by have := HQ.out; omega) b.toNat_lt (congrArg (Value.int .u64) (by rw [← HX.out.2.1]; exact or_down (j := 1) (r := 2) (u := u) (b := b.toNat) (k := q) (P := 65536) (by have := HQ.out; omega) (by omega) b.toNat_lt rfl))
      · rw [show ((11 : Nat) : Int) = 11 from rfl] at hkn
        go_wp2
        go_still_tail 15, (by kernel_rfl)
        change wpList _ _ _ _ _ wr.drew
        go_wp2
        refine ⟨⟨n + 1, by omega, rfl, ?_⟩, by simp [RowKit.intOf]; omega⟩
        rw [Hnx.out]
        exact down_step HB.out (Nat.le_refl _) Hb0.out Hbx.out (by rw [HQ.out]) (by have := HQ.out; omega) b.toNat_lt (congrArg (Value.int .u64) (by rw [← HX.out.2.1]; exact or_down (j := 1) (r := 3) (u := u) (b := b.toNat) (k := q) (P := 16777216) (by have := HQ.out; omega) (by omega) b.toNat_lt rfl))
      · rw [show ((12 : Nat) : Int) = 12 from rfl] at hkn
        go_wp2
        go_still_tail 15, (by kernel_rfl)
        change wpList _ _ _ _ _ wr.drew
        go_wp2
        refine ⟨⟨n + 1, by omega, rfl, ?_⟩, by simp [RowKit.intOf]; omega⟩
        rw [Hnx.out]
        exact down_step HB.out (Nat.le_refl _) Hb0.out Hbx.out (by rw [HQ.out]) (by have := HQ.out; omega) b.toNat_lt (congrArg (Value.int .u64) (by rw [← HX.out.2.1]; exact or_down (j := 1) (r := 4) (u := u) (b := b.toNat) (k := q) (P := 4294967296) (by have := HQ.out; omega) (by omega) b.toNat_lt rfl))
      · rw [show ((13 : Nat) : Int) = 13 from rfl] at hkn
        go_wp2
        go_still_tail 15, (by kernel_rfl)
        change wpList _ _ _ _ _ wr.drew
        go_wp2
        refine ⟨⟨n + 1, by omega, rfl, ?_⟩, by simp [RowKit.intOf]; omega⟩
        rw [Hnx.out]
        exact down_step HB.out (Nat.le_refl _) Hb0.out Hbx.out (by rw [HQ.out]) (by have := HQ.out; omega) b.toNat_lt (congrArg (Value.int .u64) (by rw [← HX.out.2.1]; exact or_down (j := 1) (r := 5) (u := u) (b := b.toNat) (k := q) (P := 1099511627776) (by have := HQ.out; omega) (by omega) b.toNat_lt rfl))
      · rw [show ((14 : Nat) : Int) = 14 from rfl] at hkn
        go_wp2
        go_still_tail 15, (by kernel_rfl)
        change wpList _ _ _ _ _ wr.drew
        go_wp2
        refine ⟨⟨n + 1, by omega, rfl, ?_⟩, by simp [RowKit.intOf]; omega⟩
        rw [Hnx.out]
        exact down_step HB.out (Nat.le_refl _) Hb0.out Hbx.out (by rw [HQ.out]) (by have := HQ.out; omega) b.toNat_lt (congrArg (Value.int .u64) (by rw [← HX.out.2.1]; exact or_down (j := 1) (r := 6) (u := u) (b := b.toNat) (k := q) (P := 281474976710656) (by have := HQ.out; omega) (by omega) b.toNat_lt rfl))
      · rw [show ((15 : Nat) : Int) = 15 from rfl] at hkn
        go_wp2
        go_still_tail 15, (by kernel_rfl)
        change wpList _ _ _ _ _ wr.drew
        go_wp2
        refine ⟨⟨n + 1, by omega, rfl, ?_⟩, by simp [RowKit.intOf]; omega⟩
        rw [Hnx.out]
        exact down_step HB.out (Nat.le_refl _) Hb0.out Hbx.out (by rw [HQ.out]) (by have := HQ.out; omega) b.toNat_lt (congrArg (Value.int .u64) (by rw [← HX.out.2.1]; exact or_down (j := 1) (r := 7) (u := u) (b := b.toNat) (k := q) (P := 72057594037927936) (by have := HQ.out; omega) (by omega) b.toNat_lt rfl))
      · rw [show ((16 : Nat) : Int) = 16 from rfl] at hkn
        go_wp2
        go_still_tail 15, (by kernel_rfl)
        change wpList _ _ _ _ _ wr.drew
        go_wp2
        refine ⟨⟨n + 1, by omega, rfl, ?_⟩, by simp [RowKit.intOf]; omega⟩
        rw [Hnx.out]
        exact down_step HB.out (Nat.le_refl _) Hb0.out Hbx.out (by rw [HQ.out]) (by have := HQ.out; omega) b.toNat_lt (congrArg (Value.int .u64) (by rw [← HX.out.2.2.1]; exact or_down0 (j := 2) (u := u) (b := b.toNat) (k := q) (by have := HQ.out; omega) b.toNat_lt))
      · rw [show ((17 : Nat) : Int) = 17 from rfl] at hkn
        go_wp2
        go_still_tail 15, (by kernel_rfl)
        change wpList _ _ _ _ _ wr.drew
        go_wp2
        refine ⟨⟨n + 1, by omega, rfl, ?_⟩, by simp [RowKit.intOf]; omega⟩
        rw [Hnx.out]
        exact down_step HB.out (Nat.le_refl _) Hb0.out Hbx.out (by rw [HQ.out]) (by have := HQ.out; omega) b.toNat_lt (congrArg (Value.int .u64) (by rw [← HX.out.2.2.1]; exact or_down (j := 2) (r := 1) (u := u) (b := b.toNat) (k := q) (P := 256) (by have := HQ.out; omega) (by omega) b.toNat_lt rfl))
      · rw [show ((18 : Nat) : Int) = 18 from rfl] at hkn
        go_wp2
        go_still_tail 15, (by kernel_rfl)
        change wpList _ _ _ _ _ wr.drew
        go_wp2
        refine ⟨⟨n + 1, by omega, rfl, ?_⟩, by simp [RowKit.intOf]; omega⟩
        rw [Hnx.out]
        exact down_step HB.out (Nat.le_refl _) Hb0.out Hbx.out (by rw [HQ.out]) (by have := HQ.out; omega) b.toNat_lt (congrArg (Value.int .u64) (by rw [← HX.out.2.2.1]; exact or_down (j := 2) (r := 2) (u := u) (b := b.toNat) (k := q) (P := 65536) (by have := HQ.out; omega) (by omega) b.toNat_lt rfl))
      · rw [show ((19 : Nat) : Int) = 19 from rfl] at hkn
        go_wp2
        go_still_tail 15, (by kernel_rfl)
        change wpList _ _ _ _ _ wr.drew
        go_wp2
        refine ⟨⟨n + 1, by omega, rfl, ?_⟩, by simp [RowKit.intOf]; omega⟩
        rw [Hnx.out]
        exact down_step HB.out (Nat.le_refl _) Hb0.out Hbx.out (by rw [HQ.out]) (by have := HQ.out; omega) b.toNat_lt (congrArg (Value.int .u64) (by rw [← HX.out.2.2.1]; exact or_down (j := 2) (r := 3) (u := u) (b := b.toNat) (k := q) (P := 16777216) (by have := HQ.out; omega) (by omega) b.toNat_lt rfl))
      · rw [show ((20 : Nat) : Int) = 20 from rfl] at hkn
        go_wp2
        go_still_tail 15, (by kernel_rfl)
        change wpList _ _ _ _ _ wr.drew
        go_wp2
        refine ⟨⟨n + 1, by omega, rfl, ?_⟩, by simp [RowKit.intOf]; omega⟩
        rw [Hnx.out]
        exact down_step HB.out (Nat.le_refl _) Hb0.out Hbx.out (by rw [HQ.out]) (by have := HQ.out; omega) b.toNat_lt (congrArg (Value.int .u64) (by rw [← HX.out.2.2.1]; exact or_down (j := 2) (r := 4) (u := u) (b := b.toNat) (k := q) (P := 4294967296) (by have := HQ.out; omega) (by omega) b.toNat_lt rfl))
      · rw [show ((21 : Nat) : Int) = 21 from rfl] at hkn
        go_wp2
        go_still_tail 15, (by kernel_rfl)
        change wpList _ _ _ _ _ wr.drew
        go_wp2
        refine ⟨⟨n + 1, by omega, rfl, ?_⟩, by simp [RowKit.intOf]; omega⟩
        rw [Hnx.out]
        exact down_step HB.out (Nat.le_refl _) Hb0.out Hbx.out (by rw [HQ.out]) (by have := HQ.out; omega) b.toNat_lt (congrArg (Value.int .u64) (by rw [← HX.out.2.2.1]; exact or_down (j := 2) (r := 5) (u := u) (b := b.toNat) (k := q) (P := 1099511627776) (by have := HQ.out; omega) (by omega) b.toNat_lt rfl))
      · rw [show ((22 : Nat) : Int) = 22 from rfl] at hkn
        go_wp2
        go_still_tail 15, (by kernel_rfl)
        change wpList _ _ _ _ _ wr.drew
        go_wp2
        refine ⟨⟨n + 1, by omega, rfl, ?_⟩, by simp [RowKit.intOf]; omega⟩
        rw [Hnx.out]
        exact down_step HB.out (Nat.le_refl _) Hb0.out Hbx.out (by rw [HQ.out]) (by have := HQ.out; omega) b.toNat_lt (congrArg (Value.int .u64) (by rw [← HX.out.2.2.1]; exact or_down (j := 2) (r := 6) (u := u) (b := b.toNat) (k := q) (P := 281474976710656) (by have := HQ.out; omega) (by omega) b.toNat_lt rfl))
      · rw [show ((23 : Nat) : Int) = 23 from rfl] at hkn
        go_wp2
        go_still_tail 15, (by kernel_rfl)
        change wpList _ _ _ _ _ wr.drew
        go_wp2
        refine ⟨⟨n + 1, by omega, rfl, ?_⟩, by simp [RowKit.intOf]; omega⟩
        rw [Hnx.out]
        exact down_step HB.out (Nat.le_refl _) Hb0.out Hbx.out (by rw [HQ.out]) (by have := HQ.out; omega) b.toNat_lt (congrArg (Value.int .u64) (by rw [← HX.out.2.2.1]; exact or_down (j := 2) (r := 7) (u := u) (b := b.toNat) (k := q) (P := 72057594037927936) (by have := HQ.out; omega) (by omega) b.toNat_lt rfl))
      · rw [show ((24 : Nat) : Int) = 24 from rfl] at hkn
        go_wp2
        go_still_tail 15, (by kernel_rfl)
        change wpList _ _ _ _ _ wr.drew
        go_wp2
        refine ⟨⟨n + 1, by omega, rfl, ?_⟩, by simp [RowKit.intOf]; omega⟩
        rw [Hnx.out]
        exact down_step HB.out (Nat.le_refl _) Hb0.out Hbx.out (by rw [HQ.out]) (by have := HQ.out; omega) b.toNat_lt (congrArg (Value.int .u64) (by rw [← HX.out.2.2.2]; exact or_down0 (j := 3) (u := u) (b := b.toNat) (k := q) (by have := HQ.out; omega) b.toNat_lt))
      · rw [show ((25 : Nat) : Int) = 25 from rfl] at hkn
        go_wp2
        go_still_tail 15, (by kernel_rfl)
        change wpList _ _ _ _ _ wr.drew
        go_wp2
        refine ⟨⟨n + 1, by omega, rfl, ?_⟩, by simp [RowKit.intOf]; omega⟩
        rw [Hnx.out]
        exact down_step HB.out (Nat.le_refl _) Hb0.out Hbx.out (by rw [HQ.out]) (by have := HQ.out; omega) b.toNat_lt (congrArg (Value.int .u64) (by rw [← HX.out.2.2.2]; exact or_down (j := 3) (r := 1) (u := u) (b := b.toNat) (k := q) (P := 256) (by have := HQ.out; omega) (by omega) b.toNat_lt rfl))
      · rw [show ((26 : Nat) : Int) = 26 from rfl] at hkn
        go_wp2
        go_still_tail 15, (by kernel_rfl)
        change wpList _ _ _ _ _ wr.drew
        go_wp2
        refine ⟨⟨n + 1, by omega, rfl, ?_⟩, by simp [RowKit.intOf]; omega⟩
        rw [Hnx.out]
        exact down_step HB.out (Nat.le_refl _) Hb0.out Hbx.out (by rw [HQ.out]) (by have := HQ.out; omega) b.toNat_lt (congrArg (Value.int .u64) (by rw [← HX.out.2.2.2]; exact or_down (j := 3) (r := 2) (u := u) (b := b.toNat) (k := q) (P := 65536) (by have := HQ.out; omega) (by omega) b.toNat_lt rfl))
      · rw [show ((27 : Nat) : Int) = 27 from rfl] at hkn
        go_wp2
        go_still_tail 15, (by kernel_rfl)
        change wpList _ _ _ _ _ wr.drew
        go_wp2
        refine ⟨⟨n + 1, by omega, rfl, ?_⟩, by simp [RowKit.intOf]; omega⟩
        rw [Hnx.out]
        exact down_step HB.out (Nat.le_refl _) Hb0.out Hbx.out (by rw [HQ.out]) (by have := HQ.out; omega) b.toNat_lt (congrArg (Value.int .u64) (by rw [← HX.out.2.2.2]; exact or_down (j := 3) (r := 3) (u := u) (b := b.toNat) (k := q) (P := 16777216) (by have := HQ.out; omega) (by omega) b.toNat_lt rfl))
      · rw [show ((28 : Nat) : Int) = 28 from rfl] at hkn
        go_wp2
        go_still_tail 15, (by kernel_rfl)
        change wpList _ _ _ _ _ wr.drew
        go_wp2
        refine ⟨⟨n + 1, by omega, rfl, ?_⟩, by simp [RowKit.intOf]; omega⟩
        rw [Hnx.out]
        exact down_step HB.out (Nat.le_refl _) Hb0.out Hbx.out (by rw [HQ.out]) (by have := HQ.out; omega) b.toNat_lt (congrArg (Value.int .u64) (by rw [← HX.out.2.2.2]; exact or_down (j := 3) (r := 4) (u := u) (b := b.toNat) (k := q) (P := 4294967296) (by have := HQ.out; omega) (by omega) b.toNat_lt rfl))
      · rw [show ((29 : Nat) : Int) = 29 from rfl] at hkn
        go_wp2
        go_still_tail 15, (by kernel_rfl)
        change wpList _ _ _ _ _ wr.drew
        go_wp2
        refine ⟨⟨n + 1, by omega, rfl, ?_⟩, by simp [RowKit.intOf]; omega⟩
        rw [Hnx.out]
        exact down_step HB.out (Nat.le_refl _) Hb0.out Hbx.out (by rw [HQ.out]) (by have := HQ.out; omega) b.toNat_lt (congrArg (Value.int .u64) (by rw [← HX.out.2.2.2]; exact or_down (j := 3) (r := 5) (u := u) (b := b.toNat) (k := q) (P := 1099511627776) (by have := HQ.out; omega) (by omega) b.toNat_lt rfl))
      · rw [show ((30 : Nat) : Int) = 30 from rfl] at hkn
        go_wp2
        go_still_tail 15, (by kernel_rfl)
        change wpList _ _ _ _ _ wr.drew
        go_wp2
        refine ⟨⟨n + 1, by omega, rfl, ?_⟩, by simp [RowKit.intOf]; omega⟩
        rw [Hnx.out]
        exact down_step HB.out (Nat.le_refl _) Hb0.out Hbx.out (by rw [HQ.out]) (by have := HQ.out; omega) b.toNat_lt (congrArg (Value.int .u64) (by rw [← HX.out.2.2.2]; exact or_down (j := 3) (r := 6) (u := u) (b := b.toNat) (k := q) (P := 281474976710656) (by have := HQ.out; omega) (by omega) b.toNat_lt rfl))
      · rw [show ((31 : Nat) : Int) = 31 from rfl] at hkn
        go_wp2
        go_still_tail 15, (by kernel_rfl)
        change wpList _ _ _ _ _ wr.drew
        go_wp2
        refine ⟨⟨n + 1, by omega, rfl, ?_⟩, by simp [RowKit.intOf]; omega⟩
        rw [Hnx.out]
        exact down_step HB.out (Nat.le_refl _) Hb0.out Hbx.out (by rw [HQ.out]) (by have := HQ.out; omega) b.toNat_lt (congrArg (Value.int .u64) (by rw [← HX.out.2.2.2]; exact or_down (j := 3) (r := 7) (u := u) (b := b.toNat) (k := q) (P := 72057594037927936) (by have := HQ.out; omega) (by omega) b.toNat_lt rfl))
    · obtain rfl : n = T.size := by omega
      have e : wordOf S.data.toList = val (T.data.toList.take T.size) * 256 ^ (T.size - T.size) := by
        rw [Nat.sub_self, Nat.pow_zero, Nat.mul_one, List.take_of_length_le (by rw [HTS.out]; exact Nat.le_refl _), HT.out]
        rfl
      have fin : ∀ x, x = wordV (val (T.data.toList.take T.size) * 256 ^ (T.size - T.size)) → Ending.returned x = .returned (wordV (wordOf S.data.toList)) := fun x hx => by rw [e, hx]
      have Fin := Lib.hid fin
      clear fin e
      obtain ⟨v, hv⟩ : ∃ v, val (T.data.toList.take T.size) * 256 ^ (T.size - T.size) = v := ⟨_, rfl⟩
      rw [hv] at hb1 Fin
      clear hv
      have hz := hb0.lt
      have Hb0 := Lib.hid hb0
      have Hb1 := Lib.hid hb1
      obtain ⟨c0, c1, c2, c3, c4⟩ := hb1
      obtain ⟨d0, d1, d2, d3, d4⟩ := hb0
      go_wp2
      refine bodyPost_ret (results_word0 rfl _ _ w.heap.size v rfl (Box4.set4 Hb0.out v)) rfl ?_
      exact ⟨Fin.out _ rfl, Below.set4 hB (Nat.le_refl _) _ _ _ _⟩
end Go.Proofs.YtmjblnhnadffmaaDoor
