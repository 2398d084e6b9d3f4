/- Contract of the program's bytes as a word. -/
import Derived.Test.YtmjblnhnadffmaaDoorWrdA
import Derived.WalkMore
namespace Go.Proofs.YtmjblnhnadffmaaDoor
open Go.RowKit Go.Lib

theorem infoWord : (Tryd.prog.info? 24).map (fun i => (i.zero, i.size, i.bytes)) = some (some (.agg #[.int .u64 0, .int .u64 0, .int .u64 0, .int .u64 0]), 4, 32) := by kernel_rfl
theorem limb_zero (k : Nat) : limb 0 k = 0 := by unfold limb; rw [Nat.zero_div]
theorem loadWord (w : World) (g v : Nat) (h : Box4 w g v) : (loadVar 24 ⟨g, 0, none⟩).run Tryd.prog w = .ok (wordV v) w := by
  obtain ⟨h0, h1, h2, h3, _⟩ := h
  simp [go_sem, loadVar, h0, h1, h2, h3, Tryd.isAgg24, Tryd.sizeOf24, wordV]
theorem results_word0 {fn : Func} {p : Tmp} (h : fn.results = #[.cell p 24]) (tmps : Array Value) (w : World) (g v : Nat) (hp : tmps.getD p undef = .pointer (some ⟨g, 0, none⟩)) (hb : Box4 w g v) :
    (results fn tmps).run Tryd.prog w = .ok (wordV v) w := by
  have hp' : tmps[p]?.getD undef = .pointer (some ⟨g, 0, none⟩) := by simpa using hp
  simp [results, h, hp', asAddr, loadWord w g v hb]
theorem results_word1 {fn : Func} {p u : Tmp} (h : fn.results = #[.cell p 24, .tmp u]) (tmps : Array Value) (w : World) (g v : Nat) (hp : tmps.getD p undef = .pointer (some ⟨g, 0, none⟩)) (hb : Box4 w g v) :
    (results fn tmps).run Tryd.prog w = .ok (.tuple #[wordV v, tmps.getD u undef]) w := by
  have hp' : tmps[p]?.getD undef = .pointer (some ⟨g, 0, none⟩) := by simpa using hp
  simp [results, h, hp', asAddr, loadWord w g v hb]

theorem or_step {v b k j r : Nat} {P : Int} (hk : k = 8 * j + r) (hr : r < 8) (hv : v < 256 ^ k) (hb : b < 256) (hP : P = ((256 ^ r : Nat) : Int)) :
    bits .or .u64 (limb v j : Nat) (IntKind.u64.wrap (IntKind.u64.wrap (b : Nat) * P)) = ((limb (b * 256 ^ k + v) j : Nat) : Int) := by
  subst hk hP
  obtain ⟨h1, h2⟩ := limb_next (k := j) hv hb hr
  rw [u64_wrapN b (by omega), ← Int.natCast_mul, u64_wrapN _ (byte_pow b r hb hr), u64_or _ b r h2 hb hr, h1]
theorem or_step0 {v b k j : Nat} (hk : k = 8 * j) (hv : v < 256 ^ k) (hb : b < 256) :
    bits .or .u64 (limb v j : Nat) (IntKind.u64.wrap (IntKind.u64.wrap (b : Nat))) = ((limb (b * 256 ^ k + v) j : Nat) : Int) := by
  have := or_step (r := 0) (P := 1) (j := j) (by omega) (by omega) hv hb (by simp)
  rwa [Int.mul_one] at this
theorem from_step {w0 : World} {wr : World} {g v b k j : Nat} {x : Value} (hB : Below w0.heap.size w0 wr) (hg : w0.heap.size ≤ g) (hb0 : Box4 wr g 0) (hbx : Box4 wr (g + 1) v) (hk : k / 8 = j) (hk3 : k < 32) (hv : v < 256 ^ k) (hb : b < 256)
    (hx : x = .int .u64 (limb (b * 256 ^ k + v) j : Nat)) :
    Below w0.heap.size w0 (wr.setCell ⟨g + 1, j, none⟩ x).drew ∧ Box4 (wr.setCell ⟨g + 1, j, none⟩ x).drew g 0 ∧ Box4 (wr.setCell ⟨g + 1, j, none⟩ x).drew (g + 1) (b * 256 ^ k + v) := by
  refine ⟨(hB.setCell (p := ⟨g + 1, j, none⟩) (show w0.heap.size ≤ g + 1 by omega) _).drew, ?_, ?_⟩
  · have : Box4 (wr.setCell ⟨g + 1, j, none⟩ x) g 0 := by
      obtain ⟨h0, h1, h2, h3, h4⟩ := hb0
      have ne : ∀ i, (⟨g + 1, j, none⟩ : Addr) ≠ ⟨g, i, none⟩ := fun i e => by simp at e
      exact ⟨(World.cell?_setCell_other _ _ _ _ (ne 0)).trans h0, (World.cell?_setCell_other _ _ _ _ (ne 1)).trans h1, (World.cell?_setCell_other _ _ _ _ (ne 2)).trans h2, (World.cell?_setCell_other _ _ _ _ (ne 3)).trans h3, fun i => by rw [World.frozen?_setCell]; exact h4 i⟩
    exact this.kept rfl
  · have := Box4.set (u := b * 256 ^ k + v) hbx x (k := j) (by omega) hx (fun i hi => limb_same hv hb (by omega))
    exact this.kept rfl
theorem Box4.set4 {W : World} {b v : Nat} (h : Box4 W b v) (u : Nat) :
    Box4 ((((W.setCell ⟨b, 0, none⟩ (.int .u64 (limb u 0))).setCell ⟨b, 1, none⟩ (.int .u64 (limb u 1))).setCell ⟨b, 2, none⟩ (.int .u64 (limb u 2))).setCell ⟨b, 3, none⟩ (.int .u64 (limb u 3))) b u := by
  obtain ⟨h0, h1, h2, h3, h4⟩ := h
  have n : ∀ i j, i ≠ j → (⟨b, i, none⟩ : Addr) ≠ ⟨b, j, none⟩ := fun i j h e => h (by cases e; rfl)
  refine ⟨?_, ?_, ?_, ?_, fun i => by rw [World.frozen?_setCell, World.frozen?_setCell, World.frozen?_setCell, World.frozen?_setCell]; exact h4 i⟩
  · rw [World.cell?_setCell_other _ _ _ _ (n 3 0 (by omega)), World.cell?_setCell_other _ _ _ _ (n 2 0 (by omega)), World.cell?_setCell_other _ _ _ _ (n 1 0 (by omega))]
    exact World.cell?_setCell_same _ _ _ h0
  · rw [World.cell?_setCell_other _ _ _ _ (n 3 1 (by omega)), World.cell?_setCell_other _ _ _ _ (n 2 1 (by omega))]
    exact World.cell?_setCell_same _ _ _ ((World.cell?_setCell_other _ _ _ _ (n 0 1 (by omega))).trans h1)
  · rw [World.cell?_setCell_other _ _ _ _ (n 3 2 (by omega))]
    exact World.cell?_setCell_same _ _ _ ((World.cell?_setCell_other _ _ _ _ (n 1 2 (by omega))).trans ((World.cell?_setCell_other _ _ _ _ (n 0 2 (by omega))).trans h2))
  · exact World.cell?_setCell_same _ _ _ ((World.cell?_setCell_other _ _ _ _ (n 2 3 (by omega))).trans ((World.cell?_setCell_other _ _ _ _ (n 1 3 (by omega))).trans ((World.cell?_setCell_other _ _ _ _ (n 0 3 (by omega))).trans h3)))
theorem Below.set4 {B : Nat} {w W : World} {b : Nat} (h : Below B w W) (hb : B ≤ b) (x0 x1 x2 x3 : Value) : Below B w ((((W.setCell ⟨b, 0, none⟩ x0).setCell ⟨b, 1, none⟩ x1).setCell ⟨b, 2, none⟩ x2).setCell ⟨b, 3, none⟩ x3) :=
  (((h.setCell (p := ⟨b, 0, none⟩) hb _).setCell (p := ⟨b, 1, none⟩) hb _).setCell (p := ⟨b, 2, none⟩) hb _).setCell (p := ⟨b, 3, none⟩) hb _
theorem val_next (l : List UInt8) (k : Nat) (hk : k < l.length) : val (lastN (k + 1) l) = (l[l.length - 1 - k]).toNat * 256 ^ k + val (lastN k l) := by
  rw [lastN_succ hk, val_cons, lastN_length, Nat.min_eq_left (by omega)]

set_option maxRecDepth 100000 in
set_option maxHeartbeats 6400000 in
theorem wordFrom_any (S : ByteArray) (w : World) (hs : S.size ≤ 1099511627776) :
    Calls Tryd.prog 25 #[.string S] w fun e w' => e = .returned (wordV (wordOf S.data.toList)) ∧ Below w.heap.size w w' := by
  have hl : S.data.toList.length = S.size := rfl
  have HL := Lib.hid hl
  clear hl
  go_enter Tryd.func25, Tryd.ntmps25
  go_wp2
  go_step3
  go_wp2
  go_step3
  go_wp2
  go_loopw [4, 5] (fun n i wr => ∃ k m : Nat, k ≤ 32 ∧ n = .int .i64 k ∧ i = .int .i64 ((m : Int) - 1) ∧ m + k = S.size ∧ Below w.heap.size w wr ∧ Box4 wr w.heap.size 0 ∧ Box4 wr (w.heap.size + 1) (val (lastN k S.data.toList))) (fun _ i _ => (RowKit.intOf i + 1).toNat)
  case atStart =>
    refine ⟨0, S.size, by omega, rfl, rfl, rfl, ((Below.refl _ _).alloc (Nat.le_refl _) _).alloc (by simp) _, ?_, ?_⟩
    · exact (Box4.new w 0 24).kept (Below.heap_alloc _ _ _ (by simp))
    · have e : val (lastN 0 S.data.toList) = 0 := by unfold lastN; rw [Nat.sub_zero, List.drop_length]; rfl
      have := Box4.new (w.alloc (.cells #[.int .u64 0, .int .u64 0, .int .u64 0, .int .u64 0] 24)) 0 24
      rw [e]
      simpa [limb_zero] using this
  case round =>
    obtain ⟨k, m, hk, rfl, rfl, hm, hB, hb0, hb1⟩ := hrel
    have fin : wordOf S.data.toList = val (lastN k S.data.toList) → ∀ x, x = wordV (val (lastN k S.data.toList)) → Ending.returned x = .returned (wordV (wordOf S.data.toList)) := fun h x hx => by rw [h, hx]
    cases m with
    | zero =>
      have e : wordOf S.data.toList = val (lastN k S.data.toList) := by
        unfold wordOf
        rw [lastN_all (by rw [HL.out]; omega), lastN_all (by rw [HL.out]; omega)]
      have Fin := Lib.hid (fin e)
      clear fin e
      obtain ⟨v, hv⟩ : ∃ v, val (lastN k S.data.toList) = v := ⟨_, rfl⟩
      rw [hv] at hb1 Fin
      clear hv
      have hz := hb0.lt
      have Hb0 := Lib.hid hb0
      have Hb1 := Lib.hid hb1
      obtain ⟨c0, c1, c2, c3, c4⟩ := hb1
      obtain ⟨d0, d1, d2, d3, d4⟩ := hb0
      go_wp2
      rw [Exit.noGoto_ret]
      refine bodyPost_ret (results_word0 rfl _ _ w.heap.size v rfl (Box4.set4 Hb0.out v)) rfl ?_
      exact ⟨Fin.out _ rfl, Below.set4 hB (Nat.le_refl _) _ _ _ _⟩
    | succ m =>
      have hi : (((m + 1 : Nat) : Int) - 1) = (m : Int) := by omega
      rw [hi]
      by_cases h32 : k = 32
      · subst h32
        have Fin := Lib.hid (fin rfl)
        clear fin
        obtain ⟨v, hv⟩ : ∃ v, val (lastN 32 S.data.toList) = v := ⟨_, rfl⟩
        rw [hv] at hb1 Fin
        clear hv
        have hz := hb0.lt
        have Hb0 := Lib.hid hb0
        have Hb1 := Lib.hid hb1
        obtain ⟨c0, c1, c2, c3, c4⟩ := hb1
        obtain ⟨d0, d1, d2, d3, d4⟩ := hb0
        go_wp2
        rw [Exit.noGoto_ret]
        refine bodyPost_ret (results_word0 rfl _ _ w.heap.size v rfl (Box4.set4 Hb0.out v)) rfl ?_
        exact ⟨Fin.out _ rfl, Below.set4 hB (Nat.le_refl _) _ _ _ _⟩
      · clear fin
        have hlt : k < 32 := by omega
        have hms : m < S.size := by omega
        obtain ⟨b, hb⟩ : ∃ b, S[m] = b := ⟨_, rfl⟩
        have hmi : (m : Int) < S.size := by omega
        obtain ⟨v, hv⟩ : ∃ v, val (lastN k S.data.toList) = v := ⟨_, rfl⟩
        have hnx : val (lastN (k + 1) S.data.toList) = b.toNat * 256 ^ k + v := by
          rw [val_next _ _ (by rw [HL.out]; omega), hv, ← hb]
          congr 3
          simp only [HL.out, show S.size - 1 - k = m from by omega]
          rfl
        have hvl : v < 256 ^ k := by rw [← hv]; exact val_lastN_lt _ _
        rw [hv] at hb1
        obtain ⟨c0, c1, c2, c3, c4⟩ := hb1
        have hbx := Lib.hid (show Box4 wr (w.heap.size + 1) v from ⟨c0, c1, c2, c3, c4⟩)
        have hsz := hb0.lt
        have Hb0 := Lib.hid hb0
        have Hnx := Lib.hid hnx
        have Hvl := Lib.hid hvl
        have HB := Lib.hid hB
        obtain ⟨kk, hkk⟩ : ∃ kk, kk = k := ⟨_, rfl⟩
        have f0 := c4 0
        have f1 := c4 1
        have f2 := c4 2
        have f3 := c4 3
        rw [← hkk] at Hnx Hvl
        clear hv hb0 c4 hnx hvl hB
        have z0 : IntKind.i64.wrap 0 = 0 := by decide
        have z1 : IntKind.i64.wrap 1 = 1 := by decide
        have z2 : IntKind.i64.wrap 2 = 2 := by decide
        have z3 : IntKind.i64.wrap 3 = 3 := by decide
        have z4 : IntKind.i64.wrap 4 = 4 := by decide
        have z5 : IntKind.i64.wrap 5 = 5 := by decide
        have z6 : IntKind.i64.wrap 6 = 6 := by decide
        have z7 : IntKind.i64.wrap 7 = 7 := by decide
        have z8 : IntKind.i64.wrap 8 = 8 := by decide
        have z16 : IntKind.i64.wrap 16 = 16 := by decide
        have z24 : IntKind.i64.wrap 24 = 24 := by decide
        have z32 : IntKind.i64.wrap 32 = 32 := by decide
        have z40 : IntKind.i64.wrap 40 = 40 := by decide
        have z48 : IntKind.i64.wrap 48 = 48 := by decide
        have z56 : IntKind.i64.wrap 56 = 56 := by decide
        rcases (by omega : k = 0 ∨ k = 1 ∨ k = 2 ∨ k = 3 ∨ k = 4 ∨ k = 5 ∨ k = 6 ∨ k = 7 ∨ k = 8 ∨ k = 9 ∨ k = 10 ∨ k = 11 ∨ k = 12 ∨ k = 13 ∨ k = 14 ∨ k = 15 ∨ k = 16 ∨ k = 17 ∨ k = 18 ∨ k = 19 ∨ k = 20 ∨ k = 21 ∨ k = 22 ∨ k = 23 ∨ k = 24 ∨ k = 25 ∨ k = 26 ∨ k = 27 ∨ k = 28 ∨ k = 29 ∨ k = 30 ∨ k = 31) with rfl | rfl | rfl | rfl | rfl | rfl | rfl | rfl | rfl | rfl | rfl | rfl | rfl | rfl | rfl | rfl | rfl | rfl | rfl | rfl | rfl | rfl | rfl | rfl | rfl | rfl | rfl | rfl | rfl | rfl | rfl | rfl
        · have HK := Lib.hid hkk
          clear hkk
          go_wp2
          go_still_tail 13, (by kernel_rfl)
          change wpList _ _ _ _ _ wr.drew
          go_wp2
          refine ⟨⟨kk + 1, m, by have := HK.out; omega, by rw [HK.out]; rfl, rfl, by have := HK.out; omega, ?_⟩, by simp [RowKit.intOf]⟩
          rw [Hnx.out]
          exact from_step HB.out (Nat.le_refl _) Hb0.out hbx.out (by rw [HK.out]) (by have := HK.out; omega) Hvl.out b.toNat_lt (congrArg (Value.int .u64) (or_step0 (j := 0) (v := v) (b := b.toNat) (k := kk) (by have := HK.out; omega) Hvl.out b.toNat_lt))
        · have HK := Lib.hid hkk
          clear hkk
          go_wp2
          go_still_tail 13, (by kernel_rfl)
          change wpList _ _ _ _ _ wr.drew
          go_wp2
          refine ⟨⟨kk + 1, m, by have := HK.out; omega, by rw [HK.out]; rfl, rfl, by have := HK.out; omega, ?_⟩, by simp [RowKit.intOf]⟩
          rw [Hnx.out]
          exact from_step HB.out (Nat.le_refl _) Hb0.out hbx.out (by rw [HK.out]) (by have := HK.out; omega) Hvl.out b.toNat_lt (congrArg (Value.int .u64) (or_step (j := 0) (r := 1) (v := v) (b := b.toNat) (k := kk) (P := 256) (by have := HK.out; omega) (by omega) Hvl.out b.toNat_lt rfl))
        · have HK := Lib.hid hkk
          clear hkk
          go_wp2
          go_still_tail 13, (by kernel_rfl)
          change wpList _ _ _ _ _ wr.drew
          go_wp2
          refine ⟨⟨kk + 1, m, by have := HK.out; omega, by rw [HK.out]; rfl, rfl, by have := HK.out; omega, ?_⟩, by simp [RowKit.intOf]⟩
          rw [Hnx.out]
          exact from_step HB.out (Nat.le_refl _) Hb0.out hbx.out (by rw [HK.out]) (by have := HK.out; omega) Hvl.out b.toNat_lt (congrArg (Value.int .u64) (or_step (j := 0) (r := 2) (v := v) (b := b.toNat) (k := kk) (P := 65536) (by have := HK.out; omega) (by omega) Hvl.out b.toNat_lt rfl))
        · have HK := Lib.hid hkk
          clear hkk
          go_wp2
          go_still_tail 13, (by kernel_rfl)
          change wpList _ _ _ _ _ wr.drew
          go_wp2
          refine ⟨⟨kk + 1, m, by have := HK.out; omega, by rw [HK.out]; rfl, rfl, by have := HK.out; omega, ?_⟩, by simp [RowKit.intOf]⟩
          rw [Hnx.out]
          exact from_step HB.out (Nat.le_refl _) Hb0.out hbx.out (by rw [HK.out]) (by have := HK.out; omega) Hvl.out b.toNat_lt (congrArg (Value.int .u64) (or_step (j := 0) (r := 3) (v := v) (b := b.toNat) (k := kk) (P := 16777216) (by have := HK.out; omega) (by omega) Hvl.out b.toNat_lt rfl))
        · have HK := Lib.hid hkk
          clear hkk
          go_wp2
          go_still_tail 13, (by kernel_rfl)
          change wpList _ _ _ _ _ wr.drew
          go_wp2
          refine ⟨⟨kk + 1, m, by have := HK.out; omega, by rw [HK.out]; rfl, rfl, by have := HK.out; omega, ?_⟩, by simp [RowKit.intOf]⟩
          rw [Hnx.out]
          exact from_step HB.out (Nat.le_refl _) Hb0.out hbx.out (by rw [HK.out]) (by have := HK.out; omega) Hvl.out b.toNat_lt (congrArg (Value.int .u64) (or_step (j := 0) (r := 4) (v := v) (b := b.toNat) (k := kk) (P := 4294967296) (by have := HK.out; omega) (by omega) Hvl.out b.toNat_lt rfl))
        · have HK := Lib.hid hkk
          clear hkk
          go_wp2
          go_still_tail 13, (by kernel_rfl)
          change wpList _ _ _ _ _ wr.drew
          go_wp2
          refine ⟨⟨kk + 1, m, by have := HK.out; omega, by rw [HK.out]; rfl, rfl, by have := HK.out; omega, ?_⟩, by simp [RowKit.intOf]⟩
          rw [Hnx.out]
          exact from_step HB.out (Nat.le_refl _) Hb0.out hbx.out (by rw [HK.out]) (by have := HK.out; omega) Hvl.out b.toNat_lt (congrArg (Value.int .u64) (or_step (j := 0) (r := 5) (v := v) (b := b.toNat) (k := kk) (P := 1099511627776) (by have := HK.out; omega) (by omega) Hvl.out b.toNat_lt rfl))
        · have HK := Lib.hid hkk
          clear hkk
          go_wp2
          go_still_tail 13, (by kernel_rfl)
          change wpList _ _ _ _ _ wr.drew
          go_wp2
          refine ⟨⟨kk + 1, m, by have := HK.out; omega, by rw [HK.out]; rfl, rfl, by have := HK.out; omega, ?_⟩, by simp [RowKit.intOf]⟩
          rw [Hnx.out]
          exact from_step HB.out (Nat.le_refl _) Hb0.out hbx.out (by rw [HK.out]) (by have := HK.out; omega) Hvl.out b.toNat_lt (congrArg (Value.int .u64) (or_step (j := 0) (r := 6) (v := v) (b := b.toNat) (k := kk) (P := 281474976710656) (by have := HK.out; omega) (by omega) Hvl.out b.toNat_lt rfl))
        · have HK := Lib.hid hkk
          clear hkk
          go_wp2
          go_still_tail 13, (by kernel_rfl)
          change wpList _ _ _ _ _ wr.drew
          go_wp2
          refine ⟨⟨kk + 1, m, by have := HK.out; omega, by rw [HK.out]; rfl, rfl, by have := HK.out; omega, ?_⟩, by simp [RowKit.intOf]⟩
          rw [Hnx.out]
          exact from_step HB.out (Nat.le_refl _) Hb0.out hbx.out (by rw [HK.out]) (by have := HK.out; omega) Hvl.out b.toNat_lt (congrArg (Value.int .u64) (or_step (j := 0) (r := 7) (v := v) (b := b.toNat) (k := kk) (P := 72057594037927936) (by have := HK.out; omega) (by omega) Hvl.out b.toNat_lt rfl))
        · have HK := Lib.hid hkk
          clear hkk
          go_wp2
          go_still_tail 13, (by kernel_rfl)
          change wpList _ _ _ _ _ wr.drew
          go_wp2
          refine ⟨⟨kk + 1, m, by have := HK.out; omega, by rw [HK.out]; rfl, rfl, by have := HK.out; omega, ?_⟩, by simp [RowKit.intOf]⟩
          rw [Hnx.out]
          exact from_step HB.out (Nat.le_refl _) Hb0.out hbx.out (by rw [HK.out]) (by have := HK.out; omega) Hvl.out b.toNat_lt (congrArg (Value.int .u64) (or_step0 (j := 1) (v := v) (b := b.toNat) (k := kk) (by have := HK.out; omega) Hvl.out b.toNat_lt))
        · have HK := Lib.hid hkk
          clear hkk
          go_wp2
          go_still_tail 13, (by kernel_rfl)
          change wpList _ _ _ _ _ wr.drew
          go_wp2
          refine ⟨⟨kk + 1, m, by have := HK.out; omega, by rw [HK.out]; rfl, rfl, by have := HK.out; omega, ?_⟩, by simp [RowKit.intOf]⟩
          rw [Hnx.out]
          exact from_step HB.out (Nat.le_refl _) Hb0.out hbx.out (by rw [HK.out]) (by have := HK.out; omega) Hvl.out b.toNat_lt (congrArg (Value.int .u64) (or_step (j := 1) (r := 1) (v := v) (b := b.toNat) (k := kk) (P := 256) (by have := HK.out; omega) (by omega) Hvl.out b.toNat_lt rfl))
        · have HK := Lib.hid hkk
          clear hkk
          go_wp2
          go_still_tail 13, (by kernel_rfl)
          change wpList _ _ _ _ _ wr.drew
          go_wp2
          refine ⟨⟨kk + 1, m, by have := HK.out; omega, by rw [HK.out]; rfl, rfl, by have := HK.out; omega, ?_⟩, by simp [RowKit.intOf]⟩
          rw [Hnx.out]
          exact from_step HB.out (Nat.le_refl _) Hb0.out hbx.out (by rw [HK.out]) (by have := HK.out; omega) Hvl.out b.toNat_lt (congrArg (Value.int .u64) (or_step (j := 1) (r := 2) (v := v) (b := b.toNat) (k := kk) (P := 65536) (by have := HK.out; omega) (by omega) Hvl.out b.toNat_lt rfl))
        · have HK := Lib.hid hkk
          clear hkk
          go_wp2
          go_still_tail 13, (by kernel_rfl)
          change wpList _ _ _ _ _ wr.drew
          go_wp2
          refine ⟨⟨kk + 1, m, by have := HK.out; omega, by rw [HK.out]; rfl, rfl, by have := HK.out; omega, ?_⟩, by simp [RowKit.intOf]⟩
          rw [Hnx.out]
          exact from_step HB.out (Nat.le_refl _) Hb0.out hbx.out (by rw [HK.out]) (by have := HK.out; omega) Hvl.out b.toNat_lt (congrArg (Value.int .u64) (or_step (j := 1) (r := 3) (v := v) (b := b.toNat) (k := kk) (P := 16777216) (by have := HK.out; omega) (by omega) Hvl.out b.toNat_lt rfl))
        · have HK := Lib.hid hkk
          clear hkk
          go_wp2
          go_still_tail 13, (by kernel_rfl)
          change wpList _ _ _ _ _ wr.drew
          go_wp2
          refine ⟨⟨kk + 1, m, by have := HK.out; omega, by rw [HK.out]; rfl, rfl, by have := HK.out; omega, ?_⟩, by simp [RowKit.intOf]⟩
          rw [Hnx.out]
          exact from_step HB.out (Nat.le_refl _) Hb0.out hbx.out (by rw [HK.out]) (by have := HK.out; omega) Hvl.out b.toNat_lt (congrArg (Value.int .u64) (or_step (j := 1) (r := 4) (v := v) (b := b.toNat) (k := kk) (P := 4294967296) (by have := HK.out; omega) (by omega) Hvl.out b.toNat_lt rfl))
        · have HK := Lib.hid hkk
          clear hkk
          go_wp2
          go_still_tail 13, (by kernel_rfl)
          change wpList _ _ _ _ _ wr.drew
          go_wp2
          refine ⟨⟨kk + 1, m, by have := HK.out; omega, by rw [HK.out]; rfl, rfl, by have := HK.out; omega, ?_⟩, by simp [RowKit.intOf]⟩
          rw [Hnx.out]
          exact from_step HB.out (Nat.le_refl _) Hb0.out hbx.out (by rw [HK.out]) (by have := HK.out; omega) Hvl.out b.toNat_lt (congrArg (Value.int .u64) (or_step (j := 1) (r := 5) (v := v) (b := b.toNat) (k := kk) (P := 1099511627776) (by have := HK.out; omega) (by omega) Hvl.out b.toNat_lt rfl))
        · have HK := Lib.hid hkk
          clear hkk
          go_wp2
          go_still_tail 13, (by kernel_rfl)
          change wpList _ _ _ _ _ wr.drew
          go_wp2
          refine ⟨⟨kk + 1, m, by have := HK.out; omega, by rw [HK.out]; rfl, rfl, by have := HK.out; omega, ?_⟩, by simp [RowKit.intOf]⟩
          rw [Hnx.out]
          exact from_step HB.out (Nat.le_refl _) Hb0.out hbx.out (by rw [HK.out]) (by have := HK.out; omega) Hvl.out b.toNat_lt (congrArg (Value.int .u64) (or_step (j := 1) (r := 6) (v := v) (b := b.toNat) (k := kk) (P := 281474976710656) (by have := HK.out; omega) (by omega) Hvl.out b.toNat_lt rfl))
        · have HK := Lib.hid hkk
          clear hkk
          go_wp2
          go_still_tail 13, (by kernel_rfl)
          change wpList _ _ _ _ _ wr.drew
          go_wp2
          refine ⟨⟨kk + 1, m, by have := HK.out; omega, by rw [HK.out]; rfl, rfl, by have := HK.out; omega, ?_⟩, by simp [RowKit.intOf]⟩
          rw [Hnx.out]
          exact from_step HB.out (Nat.le_refl _) Hb0.out hbx.out (by rw [HK.out]) (by have := HK.out; omega) Hvl.out b.toNat_lt (congrArg (Value.int .u64) (or_step (j := 1) (r := 7) (v := v) (b := b.toNat) (k := kk) (P := 72057594037927936) (by have := HK.out; omega) (by omega) Hvl.out b.toNat_lt rfl))
        · have HK := Lib.hid hkk
          clear hkk
          go_wp2
          go_still_tail 13, (by kernel_rfl)
          change wpList _ _ _ _ _ wr.drew
          go_wp2
          refine ⟨⟨kk + 1, m, by have := HK.out; omega, by rw [HK.out]; rfl, rfl, by have := HK.out; omega, ?_⟩, by simp [RowKit.intOf]⟩
          rw [Hnx.out]
          exact from_step HB.out (Nat.le_refl _) Hb0.out hbx.out (by rw [HK.out]) (by have := HK.out; omega) Hvl.out b.toNat_lt (congrArg (Value.int .u64) (or_step0 (j := 2) (v := v) (b := b.toNat) (k := kk) (by have := HK.out; omega) Hvl.out b.toNat_lt))
        · have HK := Lib.hid hkk
          clear hkk
          go_wp2
          go_still_tail 13, (by kernel_rfl)
          change wpList _ _ _ _ _ wr.drew
          go_wp2
          refine ⟨⟨kk + 1, m, by have := HK.out; omega, by rw [HK.out]; rfl, rfl, by have := HK.out; omega, ?_⟩, by simp [RowKit.intOf]⟩
          rw [Hnx.out]
          exact from_step HB.out (Nat.le_refl _) Hb0.out hbx.out (by rw [HK.out]) (by have := HK.out; omega) Hvl.out b.toNat_lt (congrArg (Value.int .u64) (or_step (j := 2) (r := 1) (v := v) (b := b.toNat) (k := kk) (P := 256) (by have := HK.out; omega) (by omega) Hvl.out b.toNat_lt rfl))
        · have HK := Lib.hid hkk
          clear hkk
          go_wp2
          go_still_tail 13, (by kernel_rfl)
          change wpList _ _ _ _ _ wr.drew
          go_wp2
          refine ⟨⟨kk + 1, m, by have := HK.out; omega, by rw [HK.out]; rfl, rfl, by have := HK.out; omega, ?_⟩, by simp [RowKit.intOf]⟩
          rw [Hnx.out]
          exact from_step HB.out (Nat.le_refl _) Hb0.out hbx.out (by rw [HK.out]) (by have := HK.out; omega) Hvl.out b.toNat_lt (congrArg (Value.int .u64) (or_step (j := 2) (r := 2) (v := v) (b := b.toNat) (k := kk) (P := 65536) (by have := HK.out; omega) (by omega) Hvl.out b.toNat_lt rfl))
        · have HK := Lib.hid hkk
          clear hkk
          go_wp2
          go_still_tail 13, (by kernel_rfl)
          change wpList _ _ _ _ _ wr.drew
          go_wp2
          refine ⟨⟨kk + 1, m, by have := HK.out; omega, by rw [HK.out]; rfl, rfl, by have := HK.out; omega, ?_⟩, by simp [RowKit.intOf]⟩
          rw [Hnx.out]
          exact from_step HB.out (Nat.le_refl _) Hb0.out hbx.out (by rw [HK.out]) (by have := HK.out; omega) Hvl.out b.toNat_lt (congrArg (Value.int .u64) (or_step (j := 2) (r := 3) (v := v) (b := b.toNat) (k := kk) (P := 16777216) (by have := HK.out; omega) (by omega) Hvl.out b.toNat_lt rfl))
        · have HK := Lib.hid hkk
          clear hkk
          go_wp2
          go_still_tail 13, (by kernel_rfl)
          change wpList _ _ _ _ _ wr.drew
          go_wp2
          refine ⟨⟨kk + 1, m, by have := HK.out; omega, by rw [HK.out]; rfl, rfl, by have := HK.out; omega, ?_⟩, by simp [RowKit.intOf]⟩
          rw [Hnx.out]
          exact from_step HB.out (Nat.le_refl _) Hb0.out hbx.out (by rw [HK.out]) (by have := HK.out; omega) Hvl.out b.toNat_lt (congrArg (Value.int .u64) (or_step (j := 2) (r := 4) (v := v) (b := b.toNat) (k := kk) (P := 4294967296) (by have := HK.out; omega) (by omega) Hvl.out b.toNat_lt rfl))
        · have HK := Lib.hid hkk
          clear hkk
          go_wp2
          go_still_tail 13, (by kernel_rfl)
          change wpList _ _ _ _ _ wr.drew
          go_wp2
          refine ⟨⟨kk + 1, m, by have := HK.out; omega, by rw [HK.out]; rfl, rfl, by have := HK.out; omega, ?_⟩, by simp [RowKit.intOf]⟩
          rw [Hnx.out]
          exact from_step HB.out (Nat.le_refl _) Hb0.out hbx.out (by rw [HK.out]) (by have := HK.out; omega) Hvl.out b.toNat_lt (congrArg (Value.int .u64) (or_step (j := 2) (r := 5) (v := v) (b := b.toNat) (k := kk) (P := 1099511627776) (by have := HK.out; omega) (by omega) Hvl.out b.toNat_lt rfl))
        · have HK := Lib.hid hkk
          clear hkk
          go_wp2
          go_still_tail 13, (by kernel_rfl)
          change wpList _ _ _ _ _ wr.drew
          go_wp2
          refine ⟨⟨kk + 1, m, by have := HK.out; omega, by rw [HK.out]; rfl, rfl, by have := HK.out; omega, ?_⟩, by simp [RowKit.intOf]⟩
          rw [Hnx.out]
          exact from_step HB.out (Nat.le_refl _) Hb0.out hbx.out (by rw [HK.out]) (by have := HK.out; omega) Hvl.out b.toNat_lt (congrArg (Value.int .u64) (or_step (j := 2) (r := 6) (v := v) (b := b.toNat) (k := kk) (P := 281474976710656) (by have := HK.out; omega) (by omega) Hvl.out b.toNat_lt rfl))
        · have HK := Lib.hid hkk
          clear hkk
          go_wp2
          go_still_tail 13, (by kernel_rfl)
          change wpList _ _ _ _ _ wr.drew
          go_wp2
          refine ⟨⟨kk + 1, m, by have := HK.out; omega, by rw [HK.out]; rfl, rfl, by have := HK.out; omega, ?_⟩, by simp [RowKit.intOf]⟩
          rw [Hnx.out]
          exact from_step HB.out (Nat.le_refl _) Hb0.out hbx.out (by rw [HK.out]) (by have := HK.out; omega) Hvl.out b.toNat_lt (congrArg (Value.int .u64) (or_step (j := 2) (r := 7) (v := v) (b := b.toNat) (k := kk) (P := 72057594037927936) (by have := HK.out; omega) (by omega) Hvl.out b.toNat_lt rfl))
        · have HK := Lib.hid hkk
          clear hkk
          go_wp2
          go_still_tail 13, (by kernel_rfl)
          change wpList _ _ _ _ _ wr.drew
          go_wp2
          refine ⟨⟨kk + 1, m, by have := HK.out; omega, by rw [HK.out]; rfl, rfl, by have := HK.out; omega, ?_⟩, by simp [RowKit.intOf]⟩
          rw [Hnx.out]
          exact from_step HB.out (Nat.le_refl _) Hb0.out hbx.out (by rw [HK.out]) (by have := HK.out; omega) Hvl.out b.toNat_lt (congrArg (Value.int .u64) (or_step0 (j := 3) (v := v) (b := b.toNat) (k := kk) (by have := HK.out; omega) Hvl.out b.toNat_lt))
        · have HK := Lib.hid hkk
          clear hkk
          go_wp2
          go_still_tail 13, (by kernel_rfl)
          change wpList _ _ _ _ _ wr.drew
          go_wp2
          refine ⟨⟨kk + 1, m, by have := HK.out; omega, by rw [HK.out]; rfl, rfl, by have := HK.out; omega, ?_⟩, by simp [RowKit.intOf]⟩
          rw [Hnx.out]
          exact from_step HB.out (Nat.le_refl _) Hb0.out hbx.out (by rw [HK.out]) (by have := HK.out; omega) Hvl.out b.toNat_lt (congrArg (Value.int .u64) (or_step (j := 3) (r := 1) (v := v) (b := b.toNat) (k := kk) (P := 256) (by have := HK.out; omega) (by omega) Hvl.out b.toNat_lt rfl))
        · have HK := Lib.hid hkk
          clear hkk
          go_wp2
          go_still_tail 13, (by kernel_rfl)
          change wpList _ _ _ _ _ wr.drew
          go_wp2
          refine ⟨⟨kk + 1, m, by have := HK.out; omega, by rw [HK.out]; rfl, rfl, by have := HK.out; omega, ?_⟩, by simp [RowKit.intOf]⟩
          rw [Hnx.out]
          exact from_step HB.out (Nat.le_refl _) Hb0.out hbx.out (by rw [HK.out]) (by have := HK.out; omega) Hvl.out b.toNat_lt (congrArg (Value.int .u64) (or_step (j := 3) (r := 2) (v := v) (b := b.toNat) (k := kk) (P := 65536) (by have := HK.out; omega) (by omega) Hvl.out b.toNat_lt rfl))
        · have HK := Lib.hid hkk
          clear hkk
          go_wp2
          go_still_tail 13, (by kernel_rfl)
          change wpList _ _ _ _ _ wr.drew
          go_wp2
          refine ⟨⟨kk + 1, m, by have := HK.out; omega, by rw [HK.out]; rfl, rfl, by have := HK.out; omega, ?_⟩, by simp [RowKit.intOf]⟩
          rw [Hnx.out]
          exact from_step HB.out (Nat.le_refl _) Hb0.out hbx.out (by rw [HK.out]) (by have := HK.out; omega) Hvl.out b.toNat_lt (congrArg (Value.int .u64) (or_step (j := 3) (r := 3) (v := v) (b := b.toNat) (k := kk) (P := 16777216) (by have := HK.out; omega) (by omega) Hvl.out b.toNat_lt rfl))
        · have HK := Lib.hid hkk
          clear hkk
          go_wp2
          go_still_tail 13, (by kernel_rfl)
          change wpList _ _ _ _ _ wr.drew
          go_wp2
          refine ⟨⟨kk + 1, m, by have := HK.out; omega, by rw [HK.out]; rfl, rfl, by have := HK.out; omega, ?_⟩, by simp [RowKit.intOf]⟩
          rw [Hnx.out]
          exact from_step HB.out (Nat.le_refl _) Hb0.out hbx.out (by rw [HK.out]) (by have := HK.out; omega) Hvl.out b.toNat_lt (congrArg (Value.int .u64) (or_step (j := 3) (r := 4) (v := v) (b := b.toNat) (k := kk) (P := 4294967296) (by have := HK.out; omega) (by omega) Hvl.out b.toNat_lt rfl))
        · have HK := Lib.hid hkk
          clear hkk
          go_wp2
          go_still_tail 13, (by kernel_rfl)
          change wpList _ _ _ _ _ wr.drew
          go_wp2
          refine ⟨⟨kk + 1, m, by have := HK.out; omega, by rw [HK.out]; rfl, rfl, by have := HK.out; omega, ?_⟩, by simp [RowKit.intOf]⟩
          rw [Hnx.out]
          exact from_step HB.out (Nat.le_refl _) Hb0.out hbx.out (by rw [HK.out]) (by have := HK.out; omega) Hvl.out b.toNat_lt (congrArg (Value.int .u64) (or_step (j := 3) (r := 5) (v := v) (b := b.toNat) (k := kk) (P := 1099511627776) (by have := HK.out; omega) (by omega) Hvl.out b.toNat_lt rfl))
        · have HK := Lib.hid hkk
          clear hkk
          go_wp2
          go_still_tail 13, (by kernel_rfl)
          change wpList _ _ _ _ _ wr.drew
          go_wp2
          refine ⟨⟨kk + 1, m, by have := HK.out; omega, by rw [HK.out]; rfl, rfl, by have := HK.out; omega, ?_⟩, by simp [RowKit.intOf]⟩
          rw [Hnx.out]
          exact from_step HB.out (Nat.le_refl _) Hb0.out hbx.out (by rw [HK.out]) (by have := HK.out; omega) Hvl.out b.toNat_lt (congrArg (Value.int .u64) (or_step (j := 3) (r := 6) (v := v) (b := b.toNat) (k := kk) (P := 281474976710656) (by have := HK.out; omega) (by omega) Hvl.out b.toNat_lt rfl))
        · have HK := Lib.hid hkk
          clear hkk
          go_wp2
          go_still_tail 13, (by kernel_rfl)
          change wpList _ _ _ _ _ wr.drew
          go_wp2
          refine ⟨⟨kk + 1, m, by have := HK.out; omega, by rw [HK.out]; rfl, rfl, by have := HK.out; omega, ?_⟩, by simp [RowKit.intOf]⟩
          rw [Hnx.out]
          exact from_step HB.out (Nat.le_refl _) Hb0.out hbx.out (by rw [HK.out]) (by have := HK.out; omega) Hvl.out b.toNat_lt (congrArg (Value.int .u64) (or_step (j := 3) (r := 7) (v := v) (b := b.toNat) (k := kk) (P := 72057594037927936) (by have := HK.out; omega) (by omega) Hvl.out b.toNat_lt rfl))
end Go.Proofs.YtmjblnhnadffmaaDoor
