/- Contracts of the program's words as bytes, and bytes as words. -/
import Derived.Test.YtmjblnhnadffmaaDoorChecked
import Derived.Test.YtmjblnhnadffmaaDoorWrdP
import Derived.Test.YtmjblnhnadffmaaDoorNumC
import Derived.StillTailTactics
import Derived.RangeFuncRecord
namespace Go.Proofs.YtmjblnhnadffmaaDoor
open Go.RowKit Go.Lib

/-- the first i bytes are there, behind them 0 -/
def partN (m n i : Nat) : List UInt8 := (be m n).take i ++ List.replicate (m - i) 0
theorem partN_length (m n i : Nat) (h : i ≤ m) : (partN m n i).length = m := by simp [partN, be_length]; omega
theorem partN_set (m n i : Nat) (hi : i < m) : (partN m n i).set i (UInt8.ofNat (n / 256 ^ (m - 1 - i))) = partN m n (i + 1) := by
  have hl : ((be m n).take i).length = i := by rw [List.length_take, be_length]; omega
  unfold partN
  rw [be_take m n i hi, List.set_append_right _ _ (by omega), hl, Nat.sub_self]
  obtain ⟨k, hk⟩ : ∃ k, m - i = k + 1 := ⟨m - i - 1, by omega⟩
  rw [hk, show m - (i + 1) = k from by omega, List.replicate_succ, List.set_cons_zero, List.append_assoc]
  rfl
theorem partN_done (m n : Nat) : partN m n m = be m n := by
  unfold partN
  rw [List.take_of_length_le (by rw [be_length]; omega)]; simp

/-- four cells of a block that may be written: a word's limbs -/
def Box4 (W : World) (b : Nat) (v : Nat) : Prop := W.cell? ⟨b, 0, none⟩ = some (.int .u64 (limb v 0)) ∧ W.cell? ⟨b, 1, none⟩ = some (.int .u64 (limb v 1)) ∧ W.cell? ⟨b, 2, none⟩ = some (.int .u64 (limb v 2)) ∧ W.cell? ⟨b, 3, none⟩ = some (.int .u64 (limb v 3)) ∧ ∀ i, W.frozen? ⟨b, i, none⟩ = false
theorem Box4.lt {W : World} {b v : Nat} (h : Box4 W b v) : b < W.heap.size := World.block_lt_of_cell? W ⟨b, 0, none⟩ h.1
theorem Box4.kept {W W' : World} {b v : Nat} (h : Box4 W b v) (hb : W'.heap[b]? = W.heap[b]?) : Box4 W' b v := by
  obtain ⟨h0, h1, h2, h3, h4⟩ := h
  exact ⟨(World.cell?_of_block (a := ⟨b, 0, none⟩) hb).trans h0, (World.cell?_of_block (a := ⟨b, 1, none⟩) hb).trans h1, (World.cell?_of_block (a := ⟨b, 2, none⟩) hb).trans h2, (World.cell?_of_block (a := ⟨b, 3, none⟩) hb).trans h3, fun i => (World.frozen?_of_block (a := ⟨b, i, none⟩) hb).trans (h4 i)⟩
theorem Box4.new (w : World) (v : Nat) (t : TypeId) : Box4 (w.alloc (.cells #[.int .u64 (limb v 0), .int .u64 (limb v 1), .int .u64 (limb v 2), .int .u64 (limb v 3)] t)) w.heap.size v := by
  have c := cells_new w [.int .u64 (limb v 0), .int .u64 (limb v 1), .int .u64 (limb v 2), .int .u64 (limb v 3)] t
  refine ⟨c 0 _ rfl, c 1 _ rfl, c 2 _ rfl, c 3 _ rfl, fun i => ?_⟩
  rw [World.frozen?, World.alloc_heap_new]
  simp
/-- one limb is written -/
theorem Box4.set {W : World} {b v u k : Nat} (h : Box4 W b v) (x : Value) (hk : k < 4) (hx : x = .int .u64 (limb u k)) (ho : ∀ j, j ≠ k → limb u j = limb v j) : Box4 (W.setCell ⟨b, k, none⟩ x) b u := by
  subst hx
  obtain ⟨h0, h1, h2, h3, h4⟩ := h
  have key : ∀ j, W.cell? ⟨b, j, none⟩ = some (.int .u64 (limb v j)) → (W.setCell ⟨b, k, none⟩ (.int .u64 (limb u k))).cell? ⟨b, j, none⟩ = some (.int .u64 (limb u j)) := by
    intro j hj
    by_cases e : j = k
    · subst e; exact World.cell?_setCell_same _ _ _ hj
    · rw [World.cell?_setCell_other _ _ _ _ (fun e2 => e (by cases e2; rfl)), hj, ho j e]
  exact ⟨key 0 h0, key 1 h1, key 2 h2, key 3 h3, fun i => by rw [World.frozen?_setCell]; exact h4 i⟩

theorem u64_or (x b r : Nat) (h : x < 256 ^ r) (hb : b < 256) (hr : r < 8) : bits .or .u64 (x : Int) (((b * 256 ^ r : Nat)) : Int) = ((x + b * 256 ^ r : Nat) : Int) := by
  have h2 : 256 ^ (r + 1) ≤ 256 ^ 8 := Nat.pow_le_pow_right (by decide) (by omega)
  have h3 : b * 256 ^ r ≤ 255 * 256 ^ r := Nat.mul_le_mul_right _ (by omega)
  rw [Nat.pow_succ, p8] at h2
  rw [(bits_nat .u64 64 (by decide) (by intro x h0 h1; rw [IntKind.wrap_u64]; omega) x (b * 256 ^ r) (by omega) (by omega)).2]
  have e := Nat.shiftLeft_add_eq_or_of_lt (i := 8 * r) (b := x) (by rw [Nat.pow_mul]; exact h) b
  rw [Nat.shiftLeft_eq, Nat.pow_mul] at e
  rw [show (2 : Nat) ^ 8 = 256 from rfl] at e
  rw [Nat.or_comm, ← e, Nat.add_comm]
theorem u64_wrapN (x : Nat) (h : x < 18446744073709551616) : IntKind.u64.wrap (x : Int) = (x : Int) := by rw [IntKind.wrap_u64]; omega
theorem byte_pow (b r : Nat) (hb : b < 256) (hr : r < 8) : b * 256 ^ r < 18446744073709551616 := by
  have h2 : 256 ^ (r + 1) ≤ 256 ^ 8 := Nat.pow_le_pow_right (by decide) (by omega)
  have h3 : b * 256 ^ r ≤ 255 * 256 ^ r := Nat.mul_le_mul_right _ (by omega)
  rw [Nat.pow_succ, p8] at h2
  omega

set_option maxRecDepth 100000 in
set_option maxHeartbeats 6400000 in
theorem wordBytes_any (v : Nat) (w : World) :
    Calls Tryd.prog 59 #[wordV v] w fun e w' => e = .returned (.string ⟨(be 32 v).toArray⟩) ∧ Below w.heap.size w w' := by
  obtain ⟨x0, hx0⟩ : ∃ x, limb v 0 = x := ⟨_, rfl⟩
  obtain ⟨x1, hx1⟩ : ∃ x, limb v 1 = x := ⟨_, rfl⟩
  obtain ⟨x2, hx2⟩ : ∃ x, limb v 2 = x := ⟨_, rfl⟩
  obtain ⟨x3, hx3⟩ : ∃ x, limb v 3 = x := ⟨_, rfl⟩
  have l0 : OwnB 98 w.heap.size ((w.alloc (.cells #[.int .u64 x0, .int .u64 x1, .int .u64 x2, .int .u64 x3] 24)).alloc (.cells (Lib.byteCells (List.replicate 32 0)).toArray 98)) (.slice (some ⟨w.heap.size + 1, 0, none⟩) 32 32) (partN 32 v 0) := by
    have := OwnB.lit (e := 98) (base := w.heap.size) (w.alloc (.cells #[.int .u64 x0, .int .u64 x1, .int .u64 x2, .int .u64 x3] 24)) (List.replicate 32 0) (by simp) (by simp)
    simpa [partN] using this
  have L0 := Lib.hid l0
  have HX := Lib.hid (And.intro hx0 (And.intro hx1 (And.intro hx2 hx3)))
  have hv : wordV v = .agg #[.int .u64 x0, .int .u64 x1, .int .u64 x2, .int .u64 x3] := by unfold wordV; rw [hx0, hx1, hx2, hx3]
  rw [hv]
  clear l0 hx0 hx1 hx2 hx3 hv
  go_enter Tryd.func59, Tryd.ntmps59
  go_wp2
  go_loopw [5] (fun i wr => ∃ k : Nat, k ≤ 32 ∧ i = .int .i64 k ∧ OwnB 98 w.heap.size wr (.slice (some ⟨w.heap.size + 1, 0, none⟩) 32 32) (partN 32 v k) ∧ Below w.heap.size w wr ∧
      (wr.cell? ⟨w.heap.size, 0, none⟩ = some (.int .u64 x0) ∧ wr.cell? ⟨w.heap.size, 1, none⟩ = some (.int .u64 x1) ∧ wr.cell? ⟨w.heap.size, 2, none⟩ = some (.int .u64 x2) ∧ wr.cell? ⟨w.heap.size, 3, none⟩ = some (.int .u64 x3))) (fun i _ => 32 - (RowKit.intOf i).toNat)
  case atStart => exact ⟨0, by omega, rfl, L0.out, ((Below.refl _ _).alloc (Nat.le_refl _) _).alloc (by simp) _, ⟨by simp, by simp, by simp, by simp⟩⟩
  case round =>
    obtain ⟨k, hk, rfl, hown, hB, c0, c1, c2, c3⟩ := hrel
    by_cases hlt : k < 32
    · obtain ⟨_, hs, hc, hf⟩ := OwnB.cells hown (by rw [partN_length _ _ _ hk]; omega)
      have hst := hown.stored k (UInt8.ofNat (v / 256 ^ (32 - 1 - k)))
      rw [partN_set 32 v k hlt, show 32 - 1 - k = 31 - k from by omega, ← ofNat_byte hlt] at hst
      have hfz := hf k
      have hck := hc k (by rw [partN_length _ _ _ hk]; exact hlt)
      obtain ⟨kk, hkk⟩ : ∃ kk, kk = k := ⟨_, rfl⟩
      have HC := Lib.hid (And.intro c0 (And.intro c1 (And.intro c2 c3)))
      rw [← hkk] at hst
      have Hst := Lib.hid hst
      have HB := Lib.hid hB
      clear hst hown hc hf hB
      rcases (by omega : k = 0 ∨ k = 1 ∨ k = 2 ∨ k = 3 ∨ k = 4 ∨ k = 5 ∨ k = 6 ∨ k = 7 ∨ k = 8 ∨ k = 9 ∨ k = 10 ∨ k = 11 ∨ k = 12 ∨ k = 13 ∨ k = 14 ∨ k = 15 ∨ k = 16 ∨ k = 17 ∨ k = 18 ∨ k = 19 ∨ k = 20 ∨ k = 21 ∨ k = 22 ∨ k = 23 ∨ k = 24 ∨ k = 25 ∨ k = 26 ∨ k = 27 ∨ k = 28 ∨ k = 29 ∨ k = 30 ∨ k = 31) with rfl | rfl | rfl | rfl | rfl | rfl | rfl | rfl | rfl | rfl | rfl | rfl | rfl | rfl | rfl | rfl | rfl | rfl | rfl | rfl | rfl | rfl | rfl | rfl | rfl | rfl | rfl | rfl | rfl | rfl | rfl | rfl
      all_goals
        have HK := Lib.hid hkk
        clear hkk
        go_wp2
        obtain ⟨q1, q2⟩ := Hst.out
        have q3 := HB.out.grown q2 (by omega) (fun k hk => by cases hk; omega)
        obtain ⟨d0, d1, d2, d3⟩ := HC.out
        clear q2
        obtain ⟨y0, y1, y2, y3⟩ := HX.out
        rw [HK.out] at q1 q3
        simp only [Nat.reduceDiv, Nat.reduceSub, Nat.reduceMod, Nat.reduceMul, Nat.reducePow, y0, y1, y2, y3] at q1 q3
        refine ⟨⟨kk + 1, by have := HK.out; omega, by rw [HK.out]; rfl, by rw [HK.out]; simpa using q1, by simpa using q3, ?_⟩, by simp [RowKit.intOf]⟩
        have ne : ∀ j, (⟨w.heap.size + 1, kk, none⟩ : Addr) ≠ ⟨w.heap.size, j, none⟩ := fun j e => by simp at e
        rw [HK.out] at ne
        exact ⟨(World.cell?_setCell_other _ _ _ _ (ne 0)).trans d0, (World.cell?_setCell_other _ _ _ _ (ne 1)).trans d1, (World.cell?_setCell_other _ _ _ _ (ne 2)).trans d2, (World.cell?_setCell_other _ _ _ _ (ne 3)).trans d3⟩
    · obtain rfl : k = 32 := by omega
      have hc := hown.strAs (P := Tryd.prog) Tryd.underlying91 Tryd.underlying5 Tryd.underlying9
      rw [partN_done] at hc
      clear hown
      go_wp2
      go_ret
      exact ⟨rfl, hB⟩
end Go.Proofs.YtmjblnhnadffmaaDoor
