/- What the walks take: Ew4. -/
import Derived.Test.YtlelgbmbmajfmaaGreatDoorS3
import Derived.Test.YtlelgbmbmajfmaaGreatDoorS5
import Derived.Test.YtlelgbmbmajfmaaGreatDoorS6
import Derived.Test.YtlelgbmbmajfmaaGreatDoorChecked
import Derived.StillTailTactics
import Derived.RangeFuncRecord
import Derived.WalkMore
import Derived.ChangeKeysEq
namespace Go.Proofs.YtlelgbmbmajfmaaGreatDoor
open Go.RowKit
def limb (v k : Nat) : Nat := v / 256 ^ (8 * k) % 256 ^ 8
def wordV (v : Nat) : Value := .agg #[.int .u64 (limb v 0), .int .u64 (limb v 1), .int .u64 (limb v 2), .int .u64 (limb v 3)]
def ofLimbs (a b c d : Nat) : Nat := a + b * 256 ^ 8 + c * 256 ^ 16 + d * 256 ^ 24
theorem p8 : (256 : Nat) ^ 8 = 18446744073709551616 := by decide
theorem p16 : (256 : Nat) ^ 16 = 340282366920938463463374607431768211456 := by decide
theorem p24 : (256 : Nat) ^ 24 = 6277101735386680763835789423207666416102355444464034512896 := by decide
theorem p32 : (256 : Nat) ^ 32 = 115792089237316195423570985008687907853269984665640564039457584007913129639936 := by decide
theorem limb_ofLimbs {a b c d : Nat} (ha : a < 18446744073709551616) (hb : b < 18446744073709551616) (hc : c < 18446744073709551616) (hd : d < 18446744073709551616) :
    limb (ofLimbs a b c d) 0 = a ∧ limb (ofLimbs a b c d) 1 = b ∧ limb (ofLimbs a b c d) 2 = c ∧ limb (ofLimbs a b c d) 3 = d := by
  unfold limb ofLimbs
  simp only [Nat.mul_zero, Nat.pow_zero, Nat.div_one, Nat.mul_one, Nat.reduceMul, p8, p16, p24]
  refine ⟨?_, ?_, ?_, ?_⟩ <;> omega
theorem ofLimbs_limb {v : Nat} (h : v < 256 ^ 32) : ofLimbs (limb v 0) (limb v 1) (limb v 2) (limb v 3) = v := by
  unfold limb ofLimbs
  rw [p32] at h
  simp only [Nat.mul_zero, Nat.pow_zero, Nat.div_one, Nat.mul_one, Nat.reduceMul, p8, p16, p24]
  omega
theorem limb_same {v b n k : Nat} (hv : v < 256 ^ n) (hb : b < 256) (h : k ≠ n / 8) : limb (b * 256 ^ n + v) k = limb v k := by
  unfold limb
  rcases Nat.lt_or_ge k (n / 8) with h1 | h1
  · obtain ⟨m, hm⟩ : ∃ m, n = 8 * k + (m + 8) := ⟨n - 8 * k - 8, by omega⟩
    rw [hm, Nat.pow_add, ← Nat.mul_assoc, Nat.mul_comm b, Nat.mul_assoc, Nat.mul_add_div (Nat.pow_pos (by decide)), Nat.pow_add, ← Nat.mul_assoc, Nat.add_comm, Nat.mul_comm _ (256 ^ 8), Nat.add_mul_mod_self_left]
  · have e : ∀ x, x < 256 ^ (n + 1) → x / 256 ^ (8 * k) = 0 := fun x hx => Nat.div_eq_of_lt (Nat.lt_of_lt_of_le hx (Nat.pow_le_pow_right (by decide) (by omega)))
    rw [e, e]
    · exact Nat.lt_of_lt_of_le hv (Nat.pow_le_pow_right (by decide) (by omega))
    · rw [Nat.pow_succ]
      have : b * 256 ^ n ≤ 255 * 256 ^ n := Nat.mul_le_mul_right _ (by omega)
      omega
theorem limb_next {v b k r : Nat} (hv : v < 256 ^ (8 * k + r)) (hb : b < 256) (hr : r < 8) : limb (b * 256 ^ (8 * k + r) + v) k = limb v k + b * 256 ^ r ∧ limb v k < 256 ^ r := by
  unfold limb
  have h1 : v / 256 ^ (8 * k) < 256 ^ r := by
    rw [Nat.div_lt_iff_lt_mul (Nat.pow_pos (by decide)), ← Nat.pow_add, Nat.add_comm r]; exact hv
  have h2 : 256 ^ (r + 1) ≤ 256 ^ 8 := Nat.pow_le_pow_right (by decide) (by omega)
  have h3 : b * 256 ^ r ≤ 255 * 256 ^ r := Nat.mul_le_mul_right _ (by omega)
  rw [Nat.pow_succ] at h2
  rw [Nat.pow_add, ← Nat.mul_assoc, Nat.mul_comm b, Nat.mul_assoc, Nat.mul_add_div (Nat.pow_pos (by decide)), Nat.mod_eq_of_lt (a := v / 256 ^ (8 * k)) (by omega), Nat.mod_eq_of_lt (by omega)]
  exact ⟨Nat.add_comm _ _, h1⟩
theorem limb_byte {v i : Nat} (hi : i < 32) : limb v (3 - i / 8) / 2 ^ (56 - 8 * (i % 8)) % 256 = v / 256 ^ (31 - i) % 256 := by
  unfold limb
  have e1 : (256 : Nat) ^ 8 = 2 ^ (56 - 8 * (i % 8)) * (256 * 256 ^ (i % 8)) := by
    rw [show (256 : Nat) = 2 ^ 8 from rfl, ← Nat.pow_mul, ← Nat.pow_mul, ← Nat.pow_add, ← Nat.pow_add]
    congr 1; omega
  have e2 : (256 : Nat) ^ (31 - i) = 256 ^ (8 * (3 - i / 8)) * 2 ^ (56 - 8 * (i % 8)) := by
    rw [show (256 : Nat) = 2 ^ 8 from rfl, ← Nat.pow_mul, ← Nat.pow_mul, ← Nat.pow_add]
    congr 1; omega
  rw [e1, Nat.mod_mul_right_div_self, Nat.mod_mul_right_mod, e2, Nat.div_div_eq_div_mul]
theorem be_at (m n i : Nat) (hi : i < m) : (be m n)[i]? = some (UInt8.ofNat (n / 256 ^ (m - 1 - i))) := by
  induction m generalizing i with
  | zero => omega
  | succ m ih =>
    rw [be_cons]
    cases i with
    | zero => rfl
    | succ i =>
      rw [List.getElem?_cons_succ, ih i (by omega)]
      congr 4; omega
theorem be_take (m n i : Nat) (hi : i < m) : (be m n).take (i + 1) = (be m n).take i ++ [UInt8.ofNat (n / 256 ^ (m - 1 - i))] := by
  rw [List.take_add_one, be_at m n i hi]; rfl
theorem ofNat_mod (x : Nat) : UInt8.ofNat (x % 256) = UInt8.ofNat x := by
  apply UInt8.toNat_inj.1; simp
theorem ofNat_byte {v i : Nat} (hi : i < 32) : UInt8.ofNat (limb v (3 - i / 8) / 2 ^ (56 - 8 * (i % 8))) = UInt8.ofNat (v / 256 ^ (31 - i)) := by
  rw [← ofNat_mod, limb_byte hi, ofNat_mod]
def lastN (n : Nat) (l : List UInt8) : List UInt8 := l.drop (l.length - n)
theorem lastN_length (n : Nat) (l : List UInt8) : (lastN n l).length = min n l.length := by unfold lastN; rw [List.length_drop]; omega
theorem lastN_all {n : Nat} {l : List UInt8} (h : l.length ≤ n) : lastN n l = l := by unfold lastN; rw [Nat.sub_eq_zero_of_le h]; rfl
theorem val_lastN_lt (n : Nat) (l : List UInt8) : val (lastN n l) < 256 ^ n :=
  Nat.lt_of_lt_of_le (val_lt _) (Nat.pow_le_pow_right (by decide) (by rw [lastN_length]; omega))
theorem lastN_succ {n : Nat} {l : List UInt8} (h : n < l.length) : lastN (n + 1) l = l[l.length - 1 - n] :: lastN n l := by
  unfold lastN
  rw [show l.length - (n + 1) = l.length - 1 - n from by omega, List.drop_eq_getElem_cons (by omega)]
  congr 2; omega
def wordOf (l : List UInt8) : Nat := val (lastN 32 l)
end Go.Proofs.YtlelgbmbmajfmaaGreatDoor
/- Contracts of the program's words as bytes, and bytes as words. -/
namespace Go.Proofs.YtlelgbmbmajfmaaGreatDoor
open Go.RowKit Go.Lib
def partN (m n i : Nat) : List UInt8 := (be m n).take i ++ List.replicate (m - i) 0
theorem partN_length (m n i : Nat) (h : i ≤ m) : (partN m n i).length = m := by simp [partN, be_length]; omega
theorem partN_set (m n i : Nat) (hi : i < m) : (partN m n i).set i (UInt8.ofNat (n / 256 ^ (m - 1 - i))) = partN m n (i + 1) := by
  have hl : ((be m n).take i).length = i := by rw [List.length_take, be_length]; omega
  unfold partN
  rw [be_take m n i hi, List.set_append_right _ _ (by omega), hl, Nat.sub_self]
  obtain ⟨k, hk⟩ : ∃ k, m - i = k + 1 := ⟨m - i - 1, by omega⟩
  rw [hk, show m - (i + 1) = k from by omega, List.replicate_succ, List.set_cons_zero, List.append_assoc]
  rfl
theorem partN_done (m n : Nat) : partN m n m = be m n := by
  unfold partN
  rw [List.take_of_length_le (by rw [be_length]; omega)]; simp
def Box4 (W : World) (b : Nat) (v : Nat) : Prop := W.cell? ⟨b, 0, none⟩ = some (.int .u64 (limb v 0)) ∧ W.cell? ⟨b, 1, none⟩ = some (.int .u64 (limb v 1)) ∧ W.cell? ⟨b, 2, none⟩ = some (.int .u64 (limb v 2)) ∧ W.cell? ⟨b, 3, none⟩ = some (.int .u64 (limb v 3)) ∧ ∀ i, W.frozen? ⟨b, i, none⟩ = false
theorem Box4.lt {W : World} {b v : Nat} (h : Box4 W b v) : b < W.heap.size := World.block_lt_of_cell? W ⟨b, 0, none⟩ h.1
theorem Box4.kept {W W' : World} {b v : Nat} (h : Box4 W b v) (hb : W'.heap[b]? = W.heap[b]?) : Box4 W' b v := by
  obtain ⟨h0, h1, h2, h3, h4⟩ := h
  exact ⟨(World.cell?_of_block (a := ⟨b, 0, none⟩) hb).trans h0, (World.cell?_of_block (a := ⟨b, 1, none⟩) hb).trans h1, (World.cell?_of_block (a := ⟨b, 2, none⟩) hb).trans h2, (World.cell?_of_block (a := ⟨b, 3, none⟩) hb).trans h3, fun i => (World.frozen?_of_block (a := ⟨b, i, none⟩) hb).trans (h4 i)⟩
theorem Box4.new (w : World) (v : Nat) (t : TypeId) : Box4 (w.alloc (.cells #[.int .u64 (limb v 0), .int .u64 (limb v 1), .int .u64 (limb v 2), .int .u64 (limb v 3)] t)) w.heap.size v := by
  have c := cells_new w [.int .u64 (limb v 0), .int .u64 (limb v 1), .int .u64 (limb v 2), .int .u64 (limb v 3)] t
  refine ⟨c 0 _ rfl, c 1 _ rfl, c 2 _ rfl, c 3 _ rfl, fun i => ?_⟩
  rw [World.frozen?, World.alloc_heap_new]
  simp
theorem Box4.set {W : World} {b v u k : Nat} (h : Box4 W b v) (x : Value) (hk : k < 4) (hx : x = .int .u64 (limb u k)) (ho : ∀ j, j ≠ k → limb u j = limb v j) : Box4 (W.setCell ⟨b, k, none⟩ x) b u := by
  subst hx
  obtain ⟨h0, h1, h2, h3, h4⟩ := h
  have key : ∀ j, W.cell? ⟨b, j, none⟩ = some (.int .u64 (limb v j)) → (W.setCell ⟨b, k, none⟩ (.int .u64 (limb u k))).cell? ⟨b, j, none⟩ = some (.int .u64 (limb u j)) := by
    intro j hj
    by_cases e : j = k
    · subst e; exact World.cell?_setCell_same _ _ _ hj
    · rw [World.cell?_setCell_other _ _ _ _ (fun e2 => e (by cases e2; rfl)), hj, ho j e]
  exact ⟨key 0 h0, key 1 h1, key 2 h2, key 3 h3, fun i => by rw [World.frozen?_setCell]; exact h4 i⟩
theorem u64_or (x b r : Nat) (h : x < 256 ^ r) (hb : b < 256) (hr : r < 8) : bits .or .u64 (x : Int) (((b * 256 ^ r : Nat)) : Int) = ((x + b * 256 ^ r : Nat) : Int) := by
  have h2 : 256 ^ (r + 1) ≤ 256 ^ 8 := Nat.pow_le_pow_right (by decide) (by omega)
  have h3 : b * 256 ^ r ≤ 255 * 256 ^ r := Nat.mul_le_mul_right _ (by omega)
  rw [Nat.pow_succ, p8] at h2
  rw [(bits_nat .u64 64 (by decide) (by intro x h0 h1; rw [IntKind.wrap_u64]; omega) x (b * 256 ^ r) (by omega) (by omega)).2]
  have e := Nat.shiftLeft_add_eq_or_of_lt (i := 8 * r) (b := x) (by rw [Nat.pow_mul]; exact h) b
  rw [Nat.shiftLeft_eq, Nat.pow_mul] at e
  rw [show (2 : Nat) ^ 8 = 256 from rfl] at e
  rw [Nat.or_comm, ← e, Nat.add_comm]
theorem u64_wrapN (x : Nat) (h : x < 18446744073709551616) : IntKind.u64.wrap (x : Int) = (x : Int) := by rw [IntKind.wrap_u64]; omega
theorem byte_pow (b r : Nat) (hb : b < 256) (hr : r < 8) : b * 256 ^ r < 18446744073709551616 := by
  have h2 : 256 ^ (r + 1) ≤ 256 ^ 8 := Nat.pow_le_pow_right (by decide) (by omega)
  have h3 : b * 256 ^ r ≤ 255 * 256 ^ r := Nat.mul_le_mul_right _ (by omega)
  rw [Nat.pow_succ, p8] at h2
  omega
set_option maxRecDepth 100000 in
set_option maxHeartbeats 6400000 in
theorem wordBytes_any (v : Nat) (w : World) :
    Calls Tryz.prog 12 #[wordV v] w fun e w' => e = .returned (.string ⟨(be 32 v).toArray⟩) ∧ Below w.heap.size w w' := by
  obtain ⟨x0, hx0⟩ : ∃ x, limb v 0 = x := ⟨_, rfl⟩
  obtain ⟨x1, hx1⟩ : ∃ x, limb v 1 = x := ⟨_, rfl⟩
  obtain ⟨x2, hx2⟩ : ∃ x, limb v 2 = x := ⟨_, rfl⟩
  obtain ⟨x3, hx3⟩ : ∃ x, limb v 3 = x := ⟨_, rfl⟩
  have l0 : OwnB 71 w.heap.size ((w.alloc (.cells #[.int .u64 x0, .int .u64 x1, .int .u64 x2, .int .u64 x3] 24)).alloc (.cells (Lib.byteCells (List.replicate 32 0)).toArray 71)) (.slice (some ⟨w.heap.size + 1, 0, none⟩) 32 32) (partN 32 v 0) := by
    have := OwnB.lit (e := 71) (base := w.heap.size) (w.alloc (.cells #[.int .u64 x0, .int .u64 x1, .int .u64 x2, .int .u64 x3] 24)) (List.replicate 32 0) (by simp) (by simp)
    simpa [partN] using this
  have L0 := Lib.hid l0
  have HX := Lib.hid (And.intro hx0 (And.intro hx1 (And.intro hx2 hx3)))
  have hv : wordV v = .agg #[.int .u64 x0, .int .u64 x1, .int .u64 x2, .int .u64 x3] := by unfold wordV; rw [hx0, hx1, hx2, hx3]
  rw [hv]
  clear l0 hx0 hx1 hx2 hx3 hv
  go_enter Tryz.func12, Tryz.ntmps12
  go_wp2
  go_loopw [5] (fun i wr => ∃ k : Nat, k ≤ 32 ∧ i = .int .i64 k ∧ OwnB 71 w.heap.size wr (.slice (some ⟨w.heap.size + 1, 0, none⟩) 32 32) (partN 32 v k) ∧ Below w.heap.size w wr ∧
      (wr.cell? ⟨w.heap.size, 0, none⟩ = some (.int .u64 x0) ∧ wr.cell? ⟨w.heap.size, 1, none⟩ = some (.int .u64 x1) ∧ wr.cell? ⟨w.heap.size, 2, none⟩ = some (.int .u64 x2) ∧ wr.cell? ⟨w.heap.size, 3, none⟩ = some (.int .u64 x3))) (fun i _ => 32 - (RowKit.intOf i).toNat)
  case atStart => exact ⟨0, by omega, rfl, L0.out, ((Below.refl _ _).alloc (Nat.le_refl _) _).alloc (by simp) _, ⟨by simp, by simp, by simp, by simp⟩⟩
  case round =>
    obtain ⟨k, hk, rfl, hown, hB, c0, c1, c2, c3⟩ := hrel
    by_cases hlt : k < 32
    · obtain ⟨_, hs, hc, hf⟩ := OwnB.cells hown (by rw [partN_length _ _ _ hk]; omega)
      have hst := hown.stored k (UInt8.ofNat (v / 256 ^ (32 - 1 - k)))
      rw [partN_set 32 v k hlt, show 32 - 1 - k = 31 - k from by omega, ← ofNat_byte hlt] at hst
      have hfz := hf k
      have hck := hc k (by rw [partN_length _ _ _ hk]; exact hlt)
      obtain ⟨kk, hkk⟩ : ∃ kk, kk = k := ⟨_, rfl⟩
      have HC := Lib.hid (And.intro c0 (And.intro c1 (And.intro c2 c3)))
      rw [← hkk] at hst
      have Hst := Lib.hid hst
      have HB := Lib.hid hB
      clear hst hown hc hf hB
      rcases (by omega : k = 0 ∨ k = 1 ∨ k = 2 ∨ k = 3 ∨ k = 4 ∨ k = 5 ∨ k = 6 ∨ k = 7 ∨ k = 8 ∨ k = 9 ∨ k = 10 ∨ k = 11 ∨ k = 12 ∨ k = 13 ∨ k = 14 ∨ k = 15 ∨ k = 16 ∨ k = 17 ∨ k = 18 ∨ k = 19 ∨ k = 20 ∨ k = 21 ∨ k = 22 ∨ k = 23 ∨ k = 24 ∨ k = 25 ∨ k = 26 ∨ k = 27 ∨ k = 28 ∨ k = 29 ∨ k = 30 ∨ k = 31) with rfl | rfl | rfl | rfl | rfl | rfl | rfl | rfl | rfl | rfl | rfl | rfl | rfl | rfl | rfl | rfl | rfl | rfl | rfl | rfl | rfl | rfl | rfl | rfl | rfl | rfl | rfl | rfl | rfl | rfl | rfl | rfl
      all_goals
        have HK := Lib.hid hkk
        clear hkk
        go_wp2
        obtain ⟨q1, q2⟩ := Hst.out
        have q3 := HB.out.grown q2 (by omega) (fun k hk => by cases hk; omega)
        obtain ⟨d0, d1, d2, d3⟩ := HC.out
        clear q2
        obtain ⟨y0, y1, y2, y3⟩ := HX.out
        rw [HK.out] at q1 q3
        simp only [Nat.reduceDiv, Nat.reduceSub, Nat.reduceMod, Nat.reduceMul, Nat.reducePow, y0, y1, y2, y3] at q1 q3
        refine ⟨⟨kk + 1, by have := HK.out; omega, by rw [HK.out]; rfl, by rw [HK.out]; simpa using q1, by simpa using q3, ?_⟩, by simp [RowKit.intOf]⟩
        have ne : ∀ j, (⟨w.heap.size + 1, kk, none⟩ : Addr) ≠ ⟨w.heap.size, j, none⟩ := fun j e => by simp at e
        rw [HK.out] at ne
        exact ⟨(World.cell?_setCell_other _ _ _ _ (ne 0)).trans d0, (World.cell?_setCell_other _ _ _ _ (ne 1)).trans d1, (World.cell?_setCell_other _ _ _ _ (ne 2)).trans d2, (World.cell?_setCell_other _ _ _ _ (ne 3)).trans d3⟩
    · obtain rfl : k = 32 := by omega
      have hc := hown.strAs (P := Tryz.prog) Tryz.underlying55 Tryz.underlying5 Tryz.underlying9
      rw [partN_done] at hc
      clear hown
      go_wp2
      go_ret
      exact ⟨rfl, hB⟩
end Go.Proofs.YtlelgbmbmajfmaaGreatDoor
/- Contract of the program's bytes as a word. -/
namespace Go.Proofs.YtlelgbmbmajfmaaGreatDoor
open Go.RowKit Go.Lib
theorem limb_zero (k : Nat) : limb 0 k = 0 := by unfold limb; rw [Nat.zero_div]
theorem loadWord (w : World) (g v : Nat) (h : Box4 w g v) : (loadVar 24 ⟨g, 0, none⟩).run Tryz.prog w = .ok (wordV v) w := by
  obtain ⟨h0, h1, h2, h3, _⟩ := h
  simp [go_sem, loadVar, h0, h1, h2, h3, Tryz.isAgg24, Tryz.sizeOf24, wordV]
theorem results_word0 {fn : Func} {p : Tmp} (h : fn.results = #[.cell p 24]) (tmps : Array Value) (w : World) (g v : Nat) (hp : tmps.getD p undef = .pointer (some ⟨g, 0, none⟩)) (hb : Box4 w g v) :
    (results fn tmps).run Tryz.prog w = .ok (wordV v) w := by
  have hp' : tmps[p]?.getD undef = .pointer (some ⟨g, 0, none⟩) := by simpa using hp
  simp [results, h, hp', asAddr, loadWord w g v hb]
theorem or_step {v b k j r : Nat} {P : Int} (hk : k = 8 * j + r) (hr : r < 8) (hv : v < 256 ^ k) (hb : b < 256) (hP : P = ((256 ^ r : Nat) : Int)) :
    bits .or .u64 (limb v j : Nat) (IntKind.u64.wrap (IntKind.u64.wrap (b : Nat) * P)) = ((limb (b * 256 ^ k + v) j : Nat) : Int) := by
  subst hk hP
  obtain ⟨h1, h2⟩ := limb_next (k := j) hv hb hr
  rw [u64_wrapN b (by omega), ← Int.natCast_mul, u64_wrapN _ (byte_pow b r hb hr), u64_or _ b r h2 hb hr, h1]
theorem or_step0 {v b k j : Nat} (hk : k = 8 * j) (hv : v < 256 ^ k) (hb : b < 256) :
    bits .or .u64 (limb v j : Nat) (IntKind.u64.wrap (IntKind.u64.wrap (b : Nat))) = ((limb (b * 256 ^ k + v) j : Nat) : Int) := by
  have := or_step (r := 0) (P := 1) (j := j) (by omega) (by omega) hv hb (by simp)
  rwa [Int.mul_one] at this
theorem from_step {w0 : World} {wr : World} {g v b k j : Nat} {x : Value} (hB : Below w0.heap.size w0 wr) (hg : w0.heap.size ≤ g) (hb0 : Box4 wr g 0) (hbx : Box4 wr (g + 1) v) (hk : k / 8 = j) (hk3 : k < 32) (hv : v < 256 ^ k) (hb : b < 256)
    (hx : x = .int .u64 (limb (b * 256 ^ k + v) j : Nat)) :
    Below w0.heap.size w0 (wr.setCell ⟨g + 1, j, none⟩ x).drew ∧ Box4 (wr.setCell ⟨g + 1, j, none⟩ x).drew g 0 ∧ Box4 (wr.setCell ⟨g + 1, j, none⟩ x).drew (g + 1) (b * 256 ^ k + v) := by
  refine ⟨(hB.setCell (p := ⟨g + 1, j, none⟩) (show w0.heap.size ≤ g + 1 by omega) _).drew, ?_, ?_⟩
  · have : Box4 (wr.setCell ⟨g + 1, j, none⟩ x) g 0 := by
      obtain ⟨h0, h1, h2, h3, h4⟩ := hb0
      have ne : ∀ i, (⟨g + 1, j, none⟩ : Addr) ≠ ⟨g, i, none⟩ := fun i e => by simp at e
      exact ⟨(World.cell?_setCell_other _ _ _ _ (ne 0)).trans h0, (World.cell?_setCell_other _ _ _ _ (ne 1)).trans h1, (World.cell?_setCell_other _ _ _ _ (ne 2)).trans h2, (World.cell?_setCell_other _ _ _ _ (ne 3)).trans h3, fun i => by rw [World.frozen?_setCell]; exact h4 i⟩
    exact this.kept rfl
  · have := Box4.set (u := b * 256 ^ k + v) hbx x (k := j) (by omega) hx (fun i hi => limb_same hv hb (by omega))
    exact this.kept rfl
theorem Box4.set4 {W : World} {b v : Nat} (h : Box4 W b v) (u : Nat) :
    Box4 ((((W.setCell ⟨b, 0, none⟩ (.int .u64 (limb u 0))).setCell ⟨b, 1, none⟩ (.int .u64 (limb u 1))).setCell ⟨b, 2, none⟩ (.int .u64 (limb u 2))).setCell ⟨b, 3, none⟩ (.int .u64 (limb u 3))) b u := by
  obtain ⟨h0, h1, h2, h3, h4⟩ := h
  have n : ∀ i j, i ≠ j → (⟨b, i, none⟩ : Addr) ≠ ⟨b, j, none⟩ := fun i j h e => h (by cases e; rfl)
  refine ⟨?_, ?_, ?_, ?_, fun i => by rw [World.frozen?_setCell, World.frozen?_setCell, World.frozen?_setCell, World.frozen?_setCell]; exact h4 i⟩
  · rw [World.cell?_setCell_other _ _ _ _ (n 3 0 (by omega)), World.cell?_setCell_other _ _ _ _ (n 2 0 (by omega)), World.cell?_setCell_other _ _ _ _ (n 1 0 (by omega))]
    exact World.cell?_setCell_same _ _ _ h0
  · rw [World.cell?_setCell_other _ _ _ _ (n 3 1 (by omega)), World.cell?_setCell_other _ _ _ _ (n 2 1 (by omega))]
    exact World.cell?_setCell_same _ _ _ ((World.cell?_setCell_other _ _ _ _ (n 0 1 (by omega))).trans h1)
  · rw [World.cell?_setCell_other _ _ _ _ (n 3 2 (by omega))]
    exact World.cell?_setCell_same _ _ _ ((World.cell?_setCell_other _ _ _ _ (n 1 2 (by omega))).trans ((World.cell?_setCell_other _ _ _ _ (n 0 2 (by omega))).trans h2))
  · exact World.cell?_setCell_same _ _ _ ((World.cell?_setCell_other _ _ _ _ (n 2 3 (by omega))).trans ((World.cell?_setCell_other _ _ _ _ (n 1 3 (by omega))).trans ((World.cell?_setCell_other _ _ _ _ (n 0 3 (by omega))).trans h3)))
theorem Below.set4 {B : Nat} {w W : World} {b : Nat} (h : Below B w W) (hb : B ≤ b) (x0 x1 x2 x3 : Value) : Below B w ((((W.setCell ⟨b, 0, none⟩ x0).setCell ⟨b, 1, none⟩ x1).setCell ⟨b, 2, none⟩ x2).setCell ⟨b, 3, none⟩ x3) :=
  (((h.setCell (p := ⟨b, 0, none⟩) hb _).setCell (p := ⟨b, 1, none⟩) hb _).setCell (p := ⟨b, 2, none⟩) hb _).setCell (p := ⟨b, 3, none⟩) hb _
theorem val_next (l : List UInt8) (k : Nat) (hk : k < l.length) : val (lastN (k + 1) l) = (l[l.length - 1 - k]).toNat * 256 ^ k + val (lastN k l) := by
  rw [lastN_succ hk, val_cons, lastN_length, Nat.min_eq_left (by omega)]
set_option maxRecDepth 100000 in
set_option maxHeartbeats 6400000 in
theorem wordFrom_any (S : ByteArray) (w : World) (hs : S.size ≤ 1099511627776) :
    Calls Tryz.prog 134 #[.string S] w fun e w' => e = .returned (wordV (wordOf S.data.toList)) ∧ Below w.heap.size w w' := by
  have hl : S.data.toList.length = S.size := rfl
  have HL := Lib.hid hl
  clear hl
  go_enter Tryz.func134, Tryz.ntmps134
  go_wp2
  go_step3
  go_wp2
  go_step3
  go_wp2
  go_loopw [4, 5] (fun n i wr => ∃ k m : Nat, k ≤ 32 ∧ n = .int .i64 k ∧ i = .int .i64 ((m : Int) - 1) ∧ m + k = S.size ∧ Below w.heap.size w wr ∧ Box4 wr w.heap.size 0 ∧ Box4 wr (w.heap.size + 1) (val (lastN k S.data.toList))) (fun _ i _ => (RowKit.intOf i + 1).toNat)
  case atStart =>
    refine ⟨0, S.size, by omega, rfl, rfl, rfl, ((Below.refl _ _).alloc (Nat.le_refl _) _).alloc (by simp) _, ?_, ?_⟩
    · exact (Box4.new w 0 24).kept (Below.heap_alloc _ _ _ (by simp))
    · have e : val (lastN 0 S.data.toList) = 0 := by unfold lastN; rw [Nat.sub_zero, List.drop_length]; rfl
      have := Box4.new (w.alloc (.cells #[.int .u64 0, .int .u64 0, .int .u64 0, .int .u64 0] 24)) 0 24
      rw [e]
      simpa [limb_zero] using this
  case round =>
    obtain ⟨k, m, hk, rfl, rfl, hm, hB, hb0, hb1⟩ := hrel
    have fin : wordOf S.data.toList = val (lastN k S.data.toList) → ∀ x, x = wordV (val (lastN k S.data.toList)) → Ending.returned x = .returned (wordV (wordOf S.data.toList)) := fun h x hx => by rw [h, hx]
    cases m with
    | zero =>
      have e : wordOf S.data.toList = val (lastN k S.data.toList) := by
        unfold wordOf
        rw [lastN_all (by rw [HL.out]; omega), lastN_all (by rw [HL.out]; omega)]
      have Fin := Lib.hid (fin e)
      clear fin e
      obtain ⟨v, hv⟩ : ∃ v, val (lastN k S.data.toList) = v := ⟨_, rfl⟩
      rw [hv] at hb1 Fin
      clear hv
      have hz := hb0.lt
      have Hb0 := Lib.hid hb0
      have Hb1 := Lib.hid hb1
      obtain ⟨c0, c1, c2, c3, c4⟩ := hb1
      obtain ⟨d0, d1, d2, d3, d4⟩ := hb0
      go_wp2
      rw [Exit.noGoto_ret]
      refine bodyPost_ret (results_word0 rfl _ _ w.heap.size v rfl (Box4.set4 Hb0.out v)) rfl ?_
      exact ⟨Fin.out _ rfl, Below.set4 hB (Nat.le_refl _) _ _ _ _⟩
    | succ m =>
      have hi : (((m + 1 : Nat) : Int) - 1) = (m : Int) := by omega
      rw [hi]
      by_cases h32 : k = 32
      · subst h32
        have Fin := Lib.hid (fin rfl)
        clear fin
        obtain ⟨v, hv⟩ : ∃ v, val (lastN 32 S.data.toList) = v := ⟨_, rfl⟩
        rw [hv] at hb1 Fin
        clear hv
        have hz := hb0.lt
        have Hb0 := Lib.hid hb0
        have Hb1 := Lib.hid hb1
        obtain ⟨c0, c1, c2, c3, c4⟩ := hb1
        obtain ⟨d0, d1, d2, d3, d4⟩ := hb0
        go_wp2
        rw [Exit.noGoto_ret]
        refine bodyPost_ret (results_word0 rfl _ _ w.heap.size v rfl (Box4.set4 Hb0.out v)) rfl ?_
        exact ⟨Fin.out _ rfl, Below.set4 hB (Nat.le_refl _) _ _ _ _⟩
      · clear fin
        have hlt : k < 32 := by omega
        have hms : m < S.size := by omega
        obtain ⟨b, hb⟩ : ∃ b, S[m] = b := ⟨_, rfl⟩
        have hmi : (m : Int) < S.size := by omega
        obtain ⟨v, hv⟩ : ∃ v, val (lastN k S.data.toList) = v := ⟨_, rfl⟩
        have hnx : val (lastN (k + 1) S.data.toList) = b.toNat * 256 ^ k + v := by
          rw [val_next _ _ (by rw [HL.out]; omega), hv, ← hb]
          congr 3
          simp only [HL.out, show S.size - 1 - k = m from by omega]
          rfl
        have hvl : v < 256 ^ k := by rw [← hv]; exact val_lastN_lt _ _
        rw [hv] at hb1
        obtain ⟨c0, c1, c2, c3, c4⟩ := hb1
        have hbx := Lib.hid (show Box4 wr (w.heap.size + 1) v from ⟨c0, c1, c2, c3, c4⟩)
        have hsz := hb0.lt
        have Hb0 := Lib.hid hb0
        have Hnx := Lib.hid hnx
        have Hvl := Lib.hid hvl
        have HB := Lib.hid hB
        obtain ⟨kk, hkk⟩ : ∃ kk, kk = k := ⟨_, rfl⟩
        have f0 := c4 0
        have f1 := c4 1
        have f2 := c4 2
        have f3 := c4 3
        rw [← hkk] at Hnx Hvl
        clear hv hb0 c4 hnx hvl hB
        have z0 : IntKind.i64.wrap 0 = 0 := by decide
        have z1 : IntKind.i64.wrap 1 = 1 := by decide
        have z2 : IntKind.i64.wrap 2 = 2 := by decide
        have z3 : IntKind.i64.wrap 3 = 3 := by decide
        have z4 : IntKind.i64.wrap 4 = 4 := by decide
        have z5 : IntKind.i64.wrap 5 = 5 := by decide
        have z6 : IntKind.i64.wrap 6 = 6 := by decide
        have z7 : IntKind.i64.wrap 7 = 7 := by decide
        have z8 : IntKind.i64.wrap 8 = 8 := by decide
        have z16 : IntKind.i64.wrap 16 = 16 := by decide
        have z24 : IntKind.i64.wrap 24 = 24 := by decide
        have z32 : IntKind.i64.wrap 32 = 32 := by decide
        have z40 : IntKind.i64.wrap 40 = 40 := by decide
        have z48 : IntKind.i64.wrap 48 = 48 := by decide
        have z56 : IntKind.i64.wrap 56 = 56 := by decide
        rcases (by omega : k = 0 ∨ k = 1 ∨ k = 2 ∨ k = 3 ∨ k = 4 ∨ k = 5 ∨ k = 6 ∨ k = 7 ∨ k = 8 ∨ k = 9 ∨ k = 10 ∨ k = 11 ∨ k = 12 ∨ k = 13 ∨ k = 14 ∨ k = 15 ∨ k = 16 ∨ k = 17 ∨ k = 18 ∨ k = 19 ∨ k = 20 ∨ k = 21 ∨ k = 22 ∨ k = 23 ∨ k = 24 ∨ k = 25 ∨ k = 26 ∨ k = 27 ∨ k = 28 ∨ k = 29 ∨ k = 30 ∨ k = 31) with rfl | rfl | rfl | rfl | rfl | rfl | rfl | rfl | rfl | rfl | rfl | rfl | rfl | rfl | rfl | rfl | rfl | rfl | rfl | rfl | rfl | rfl | rfl | rfl | rfl | rfl | rfl | rfl | rfl | rfl | rfl | rfl
        · have HK := Lib.hid hkk
          clear hkk
          go_wp2
          go_still_tail 13, (by kernel_rfl)
          change wpList _ _ _ _ _ wr.drew
          go_wp2
          refine ⟨⟨kk + 1, m, by have := HK.out; omega, by rw [HK.out]; rfl, rfl, by have := HK.out; omega, ?_⟩, by simp [RowKit.intOf]⟩
          rw [Hnx.out]
          exact from_step HB.out (Nat.le_refl _) Hb0.out hbx.out (by rw [HK.out]) (by have := HK.out; omega) Hvl.out b.toNat_lt (congrArg (Value.int .u64) (or_step0 (j := 0) (v := v) (b := b.toNat) (k := kk) (by have := HK.out; omega) Hvl.out b.toNat_lt))
        · have HK := Lib.hid hkk
          clear hkk
          go_wp2
          go_still_tail 13, (by kernel_rfl)
          change wpList _ _ _ _ _ wr.drew
          go_wp2
          refine ⟨⟨kk + 1, m, by have := HK.out; omega, by rw [HK.out]; rfl, rfl, by have := HK.out; omega, ?_⟩, by simp [RowKit.intOf]⟩
          rw [Hnx.out]
          exact from_step HB.out (Nat.le_refl _) Hb0.out hbx.out (by rw [HK.out]) (by have := HK.out; omega) Hvl.out b.toNat_lt (congrArg (Value.int .u64) (or_step (j := 0) (r := 1) (v := v) (b := b.toNat) (k := kk) (P := 256) (by have := HK.out; omega) (by omega) Hvl.out b.toNat_lt rfl))
        · have HK := Lib.hid hkk
          clear hkk
          go_wp2
          go_still_tail 13, (by kernel_rfl)
          change wpList _ _ _ _ _ wr.drew
          go_wp2
          refine ⟨⟨kk + 1, m, by have := HK.out; omega, by rw [HK.out]; rfl, rfl, by have := HK.out; omega, ?_⟩, by simp [RowKit.intOf]⟩
          rw [Hnx.out]
          exact from_step HB.out (Nat.le_refl _) Hb0.out hbx.out (by rw [HK.out]) (by have := HK.out; omega) Hvl.out b.toNat_lt (congrArg (Value.int .u64) (or_step (j := 0) (r := 2) (v := v) (b := b.toNat) (k := kk) (P := 65536) (by have := HK.out; omega) (by omega) Hvl.out b.toNat_lt rfl))
        · have HK := Lib.hid hkk
          clear hkk
          go_wp2
          go_still_tail 13, (by kernel_rfl)
          change wpList _ _ _ _ _ wr.drew
          go_wp2
          refine ⟨⟨kk + 1, m, by have := HK.out; omega, by rw [HK.out]; rfl, rfl, by have := HK.out; omega, ?_⟩, by simp [RowKit.intOf]⟩
          rw [Hnx.out]
          exact from_step HB.out (Nat.le_refl _) Hb0.out hbx.out (by rw [HK.out]) (by have := HK.out; omega) Hvl.out b.toNat_lt (congrArg (Value.int .u64) (or_step (j := 0) (r := 3) (v := v) (b := b.toNat) (k := kk) (P := 16777216) (by have := HK.out; omega) (by omega) Hvl.out b.toNat_lt rfl))
        · have HK := Lib.hid hkk
          clear hkk
          go_wp2
          go_still_tail 13, (by kernel_rfl)
          change wpList _ _ _ _ _ wr.drew
          go_wp2
          refine ⟨⟨kk + 1, m, by have := HK.out; omega, by rw [HK.out]; rfl, rfl, by have := HK.out; omega, ?_⟩, by simp [RowKit.intOf]⟩
          rw [Hnx.out]
          exact from_step HB.out (Nat.le_refl _) Hb0.out hbx.out (by rw [HK.out]) (by have := HK.out; omega) Hvl.out b.toNat_lt (congrArg (Value.int .u64) (or_step (j := 0) (r := 4) (v := v) (b := b.toNat) (k := kk) (P := 4294967296) (by have := HK.out; omega) (by omega) Hvl.out b.toNat_lt rfl))
        · have HK := Lib.hid hkk
          clear hkk
          go_wp2
          go_still_tail 13, (by kernel_rfl)
          change wpList _ _ _ _ _ wr.drew
          go_wp2
          refine ⟨⟨kk + 1, m, by have := HK.out; omega, by rw [HK.out]; rfl, rfl, by have := HK.out; omega, ?_⟩, by simp [RowKit.intOf]⟩
          rw [Hnx.out]
          exact from_step HB.out (Nat.le_refl _) Hb0.out hbx.out (by rw [HK.out]) (by have := HK.out; omega) Hvl.out b.toNat_lt (congrArg (Value.int .u64) (or_step (j := 0) (r := 5) (v := v) (b := b.toNat) (k := kk) (P := 1099511627776) (by have := HK.out; omega) (by omega) Hvl.out b.toNat_lt rfl))
        · have HK := Lib.hid hkk
          clear hkk
          go_wp2
          go_still_tail 13, (by kernel_rfl)
          change wpList _ _ _ _ _ wr.drew
          go_wp2
          refine ⟨⟨kk + 1, m, by have := HK.out; omega, by rw [HK.out]; rfl, rfl, by have := HK.out; omega, ?_⟩, by simp [RowKit.intOf]⟩
          rw [Hnx.out]
          exact from_step HB.out (Nat.le_refl _) Hb0.out hbx.out (by rw [HK.out]) (by have := HK.out; omega) Hvl.out b.toNat_lt (congrArg (Value.int .u64) (or_step (j := 0) (r := 6) (v := v) (b := b.toNat) (k := kk) (P := 281474976710656) (by have := HK.out; omega) (by omega) Hvl.out b.toNat_lt rfl))
        · have HK := Lib.hid hkk
          clear hkk
          go_wp2
          go_still_tail 13, (by kernel_rfl)
          change wpList _ _ _ _ _ wr.drew
          go_wp2
          refine ⟨⟨kk + 1, m, by have := HK.out; omega, by rw [HK.out]; rfl, rfl, by have := HK.out; omega, ?_⟩, by simp [RowKit.intOf]⟩
          rw [Hnx.out]
          exact from_step HB.out (Nat.le_refl _) Hb0.out hbx.out (by rw [HK.out]) (by have := HK.out; omega) Hvl.out b.toNat_lt (congrArg (Value.int .u64) (or_step (j := 0) (r := 7) (v := v) (b := b.toNat) (k := kk) (P := 72057594037927936) (by have := HK.out; omega) (by omega) Hvl.out b.toNat_lt rfl))
        · have HK := Lib.hid hkk
          clear hkk
          go_wp2
          go_still_tail 13, (by kernel_rfl)
          change wpList _ _ _ _ _ wr.drew
          go_wp2
          refine ⟨⟨kk + 1, m, by have := HK.out; omega, by rw [HK.out]; rfl, rfl, by have := HK.out; omega, ?_⟩, by simp [RowKit.intOf]⟩
          rw [Hnx.out]
          exact from_step HB.out (Nat.le_refl _) Hb0.out hbx.out (by rw [HK.out]) (by have := HK.out; omega) Hvl.out b.toNat_lt (congrArg (Value.int .u64) (or_step0 (j := 1) (v := v) (b := b.toNat) (k := kk) (by have := HK.out; omega) Hvl.out b.toNat_lt))
        · have HK := Lib.hid hkk
          clear hkk
          go_wp2
          go_still_tail 13, (by kernel_rfl)
          change wpList _ _ _ _ _ wr.drew
          go_wp2
          refine ⟨⟨kk + 1, m, by have := HK.out; omega, by rw [HK.out]; rfl, rfl, by have := HK.out; omega, ?_⟩, by simp [RowKit.intOf]⟩
          rw [Hnx.out]
          exact from_step HB.out (Nat.le_refl _) Hb0.out hbx.out (by rw [HK.out]) (by have := HK.out; omega) Hvl.out b.toNat_lt (congrArg (Value.int .u64) (or_step (j := 1) (r := 1) (v := v) (b := b.toNat) (k := kk) (P := 256) (by have := HK.out; omega) (by omega) Hvl.out b.toNat_lt rfl))
        · have HK := Lib.hid hkk
          clear hkk
          go_wp2
          go_still_tail 13, (by kernel_rfl)
          change wpList _ _ _ _ _ wr.drew
          go_wp2
          refine ⟨⟨kk + 1, m, by have := HK.out; omega, by rw [HK.out]; rfl, rfl, by have := HK.out; omega, ?_⟩, by simp [RowKit.intOf]⟩
          rw [Hnx.out]
          exact from_step HB.out (Nat.le_refl _) Hb0.out hbx.out (by rw [HK.out]) (by have := HK.out; omega) Hvl.out b.toNat_lt (congrArg (Value.int .u64) (or_step (j := 1) (r := 2) (v := v) (b := b.toNat) (k := kk) (P := 65536) (by have := HK.out; omega) (by omega) Hvl.out b.toNat_lt rfl))
        · have HK := Lib.hid hkk
          clear hkk
          go_wp2
          go_still_tail 13, (by kernel_rfl)
          change wpList _ _ _ _ _ wr.drew
          go_wp2
          refine ⟨⟨kk + 1, m, by have := HK.out; omega, by rw [HK.out]; rfl, rfl, by have := HK.out; omega, ?_⟩, by simp [RowKit.intOf]⟩
          rw [Hnx.out]
          exact from_step HB.out (Nat.le_refl _) Hb0.out hbx.out (by rw [HK.out]) (by have := HK.out; omega) Hvl.out b.toNat_lt (congrArg (Value.int .u64) (or_step (j := 1) (r := 3) (v := v) (b := b.toNat) (k := kk) (P := 16777216) (by have := HK.out; omega) (by omega) Hvl.out b.toNat_lt rfl))
        · have HK := Lib.hid hkk
          clear hkk
          go_wp2
          go_still_tail 13, (by kernel_rfl)
          change wpList _ _ _ _ _ wr.drew
          go_wp2
          refine ⟨⟨kk + 1, m, by have := HK.out; omega, by rw [HK.out]; rfl, rfl, by have := HK.out; omega, ?_⟩, by simp [RowKit.intOf]⟩
          rw [Hnx.out]
          exact from_step HB.out (Nat.le_refl _) Hb0.out hbx.out (by rw [HK.out]) (by have := HK.out; omega) Hvl.out b.toNat_lt (congrArg (Value.int .u64) (or_step (j := 1) (r := 4) (v := v) (b := b.toNat) (k := kk) (P := 4294967296) (by have := HK.out; omega) (by omega) Hvl.out b.toNat_lt rfl))
        · have HK := Lib.hid hkk
          clear hkk
          go_wp2
          go_still_tail 13, (by kernel_rfl)
          change wpList _ _ _ _ _ wr.drew
          go_wp2
          refine ⟨⟨kk + 1, m, by have := HK.out; omega, by rw [HK.out]; rfl, rfl, by have := HK.out; omega, ?_⟩, by simp [RowKit.intOf]⟩
          rw [Hnx.out]
          exact from_step HB.out (Nat.le_refl _) Hb0.out hbx.out (by rw [HK.out]) (by have := HK.out; omega) Hvl.out b.toNat_lt (congrArg (Value.int .u64) (or_step (j := 1) (r := 5) (v := v) (b := b.toNat) (k := kk) (P := 1099511627776) (by have := HK.out; omega) (by omega) Hvl.out b.toNat_lt rfl))
        · have HK := Lib.hid hkk
          clear hkk
          go_wp2
          go_still_tail 13, (by kernel_rfl)
          change wpList _ _ _ _ _ wr.drew
          go_wp2
          refine ⟨⟨kk + 1, m, by have := HK.out; omega, by rw [HK.out]; rfl, rfl, by have := HK.out; omega, ?_⟩, by simp [RowKit.intOf]⟩
          rw [Hnx.out]
          exact from_step HB.out (Nat.le_refl _) Hb0.out hbx.out (by rw [HK.out]) (by have := HK.out; omega) Hvl.out b.toNat_lt (congrArg (Value.int .u64) (or_step (j := 1) (r := 6) (v := v) (b := b.toNat) (k := kk) (P := 281474976710656) (by have := HK.out; omega) (by omega) Hvl.out b.toNat_lt rfl))
        · have HK := Lib.hid hkk
          clear hkk
          go_wp2
          go_still_tail 13, (by kernel_rfl)
          change wpList _ _ _ _ _ wr.drew
          go_wp2
          refine ⟨⟨kk + 1, m, by have := HK.out; omega, by rw [HK.out]; rfl, rfl, by have := HK.out; omega, ?_⟩, by simp [RowKit.intOf]⟩
          rw [Hnx.out]
          exact from_step HB.out (Nat.le_refl _) Hb0.out hbx.out (by rw [HK.out]) (by have := HK.out; omega) Hvl.out b.toNat_lt (congrArg (Value.int .u64) (or_step (j := 1) (r := 7) (v := v) (b := b.toNat) (k := kk) (P := 72057594037927936) (by have := HK.out; omega) (by omega) Hvl.out b.toNat_lt rfl))
        · have HK := Lib.hid hkk
          clear hkk
          go_wp2
          go_still_tail 13, (by kernel_rfl)
          change wpList _ _ _ _ _ wr.drew
          go_wp2
          refine ⟨⟨kk + 1, m, by have := HK.out; omega, by rw [HK.out]; rfl, rfl, by have := HK.out; omega, ?_⟩, by simp [RowKit.intOf]⟩
          rw [Hnx.out]
          exact from_step HB.out (Nat.le_refl _) Hb0.out hbx.out (by rw [HK.out]) (by have := HK.out; omega) Hvl.out b.toNat_lt (congrArg (Value.int .u64) (or_step0 (j := 2) (v := v) (b := b.toNat) (k := kk) (by have := HK.out; omega) Hvl.out b.toNat_lt))
        · have HK := Lib.hid hkk
          clear hkk
          go_wp2
          go_still_tail 13, (by kernel_rfl)
          change wpList _ _ _ _ _ wr.drew
          go_wp2
          refine ⟨⟨kk + 1, m, by have := HK.out; omega, by rw [HK.out]; rfl, rfl, by have := HK.out; omega, ?_⟩, by simp [RowKit.intOf]⟩
          rw [Hnx.out]
          exact from_step HB.out (Nat.le_refl _) Hb0.out hbx.out (by rw [HK.out]) (by have := HK.out; omega) Hvl.out b.toNat_lt (congrArg (Value.int .u64) (or_step (j := 2) (r := 1) (v := v) (b := b.toNat) (k := kk) (P := 256) (by have := HK.out; omega) (by omega) Hvl.out b.toNat_lt rfl))
        · have HK := Lib.hid hkk
          clear hkk
          go_wp2
          go_still_tail 13, (by kernel_rfl)
          change wpList _ _ _ _ _ wr.drew
          go_wp2
          refine ⟨⟨kk + 1, m, by have := HK.out; omega, by rw [HK.out]; rfl, rfl, by have := HK.out; omega, ?_⟩, by simp [RowKit.intOf]⟩
          rw [Hnx.out]
          exact from_step HB.out (Nat.le_refl _) Hb0.out hbx.out (by rw [HK.out]) (by have := HK.out; omega) Hvl.out b.toNat_lt (congrArg (Value.int .u64) (or_step (j := 2) (r := 2) (v := v) (b := b.toNat) (k := kk) (P := 65536) (by have := HK.out; omega) (by omega) Hvl.out b.toNat_lt rfl))
        · have HK := Lib.hid hkk
          clear hkk
          go_wp2
          go_still_tail 13, (by kernel_rfl)
          change wpList _ _ _ _ _ wr.drew
          go_wp2
          refine ⟨⟨kk + 1, m, by have := HK.out; omega, by rw [HK.out]; rfl, rfl, by have := HK.out; omega, ?_⟩, by simp [RowKit.intOf]⟩
          rw [Hnx.out]
          exact from_step HB.out (Nat.le_refl _) Hb0.out hbx.out (by rw [HK.out]) (by have := HK.out; omega) Hvl.out b.toNat_lt (congrArg (Value.int .u64) (or_step (j := 2) (r := 3) (v := v) (b := b.toNat) (k := kk) (P := 16777216) (by have := HK.out; omega) (by omega) Hvl.out b.toNat_lt rfl))
        · have HK := Lib.hid hkk
          clear hkk
          go_wp2
          go_still_tail 13, (by kernel_rfl)
          change wpList _ _ _ _ _ wr.drew
          go_wp2
          refine ⟨⟨kk + 1, m, by have := HK.out; omega, by rw [HK.out]; rfl, rfl, by have := HK.out; omega, ?_⟩, by simp [RowKit.intOf]⟩
          rw [Hnx.out]
          exact from_step HB.out (Nat.le_refl _) Hb0.out hbx.out (by rw [HK.out]) (by have := HK.out; omega) Hvl.out b.toNat_lt (congrArg (Value.int .u64) (or_step (j := 2) (r := 4) (v := v) (b := b.toNat) (k := kk) (P := 4294967296) (by have := HK.out; omega) (by omega) Hvl.out b.toNat_lt rfl))
        · have HK := Lib.hid hkk
          clear hkk
          go_wp2
          go_still_tail 13, (by kernel_rfl)
          change wpList _ _ _ _ _ wr.drew
          go_wp2
          refine ⟨⟨kk + 1, m, by have := HK.out; omega, by rw [HK.out]; rfl, rfl, by have := HK.out; omega, ?_⟩, by simp [RowKit.intOf]⟩
          rw [Hnx.out]
          exact from_step HB.out (Nat.le_refl _) Hb0.out hbx.out (by rw [HK.out]) (by have := HK.out; omega) Hvl.out b.toNat_lt (congrArg (Value.int .u64) (or_step (j := 2) (r := 5) (v := v) (b := b.toNat) (k := kk) (P := 1099511627776) (by have := HK.out; omega) (by omega) Hvl.out b.toNat_lt rfl))
        · have HK := Lib.hid hkk
          clear hkk
          go_wp2
          go_still_tail 13, (by kernel_rfl)
          change wpList _ _ _ _ _ wr.drew
          go_wp2
          refine ⟨⟨kk + 1, m, by have := HK.out; omega, by rw [HK.out]; rfl, rfl, by have := HK.out; omega, ?_⟩, by simp [RowKit.intOf]⟩
          rw [Hnx.out]
          exact from_step HB.out (Nat.le_refl _) Hb0.out hbx.out (by rw [HK.out]) (by have := HK.out; omega) Hvl.out b.toNat_lt (congrArg (Value.int .u64) (or_step (j := 2) (r := 6) (v := v) (b := b.toNat) (k := kk) (P := 281474976710656) (by have := HK.out; omega) (by omega) Hvl.out b.toNat_lt rfl))
        · have HK := Lib.hid hkk
          clear hkk
          go_wp2
          go_still_tail 13, (by kernel_rfl)
          change wpList _ _ _ _ _ wr.drew
          go_wp2
          refine ⟨⟨kk + 1, m, by have := HK.out; omega, by rw [HK.out]; rfl, rfl, by have := HK.out; omega, ?_⟩, by simp [RowKit.intOf]⟩
          rw [Hnx.out]
          exact from_step HB.out (Nat.le_refl _) Hb0.out hbx.out (by rw [HK.out]) (by have := HK.out; omega) Hvl.out b.toNat_lt (congrArg (Value.int .u64) (or_step (j := 2) (r := 7) (v := v) (b := b.toNat) (k := kk) (P := 72057594037927936) (by have := HK.out; omega) (by omega) Hvl.out b.toNat_lt rfl))
        · have HK := Lib.hid hkk
          clear hkk
          go_wp2
          go_still_tail 13, (by kernel_rfl)
          change wpList _ _ _ _ _ wr.drew
          go_wp2
          refine ⟨⟨kk + 1, m, by have := HK.out; omega, by rw [HK.out]; rfl, rfl, by have := HK.out; omega, ?_⟩, by simp [RowKit.intOf]⟩
          rw [Hnx.out]
          exact from_step HB.out (Nat.le_refl _) Hb0.out hbx.out (by rw [HK.out]) (by have := HK.out; omega) Hvl.out b.toNat_lt (congrArg (Value.int .u64) (or_step0 (j := 3) (v := v) (b := b.toNat) (k := kk) (by have := HK.out; omega) Hvl.out b.toNat_lt))
        · have HK := Lib.hid hkk
          clear hkk
          go_wp2
          go_still_tail 13, (by kernel_rfl)
          change wpList _ _ _ _ _ wr.drew
          go_wp2
          refine ⟨⟨kk + 1, m, by have := HK.out; omega, by rw [HK.out]; rfl, rfl, by have := HK.out; omega, ?_⟩, by simp [RowKit.intOf]⟩
          rw [Hnx.out]
          exact from_step HB.out (Nat.le_refl _) Hb0.out hbx.out (by rw [HK.out]) (by have := HK.out; omega) Hvl.out b.toNat_lt (congrArg (Value.int .u64) (or_step (j := 3) (r := 1) (v := v) (b := b.toNat) (k := kk) (P := 256) (by have := HK.out; omega) (by omega) Hvl.out b.toNat_lt rfl))
        · have HK := Lib.hid hkk
          clear hkk
          go_wp2
          go_still_tail 13, (by kernel_rfl)
          change wpList _ _ _ _ _ wr.drew
          go_wp2
          refine ⟨⟨kk + 1, m, by have := HK.out; omega, by rw [HK.out]; rfl, rfl, by have := HK.out; omega, ?_⟩, by simp [RowKit.intOf]⟩
          rw [Hnx.out]
          exact from_step HB.out (Nat.le_refl _) Hb0.out hbx.out (by rw [HK.out]) (by have := HK.out; omega) Hvl.out b.toNat_lt (congrArg (Value.int .u64) (or_step (j := 3) (r := 2) (v := v) (b := b.toNat) (k := kk) (P := 65536) (by have := HK.out; omega) (by omega) Hvl.out b.toNat_lt rfl))
        · have HK := Lib.hid hkk
          clear hkk
          go_wp2
          go_still_tail 13, (by kernel_rfl)
          change wpList _ _ _ _ _ wr.drew
          go_wp2
          refine ⟨⟨kk + 1, m, by have := HK.out; omega, by rw [HK.out]; rfl, rfl, by have := HK.out; omega, ?_⟩, by simp [RowKit.intOf]⟩
          rw [Hnx.out]
          exact from_step HB.out (Nat.le_refl _) Hb0.out hbx.out (by rw [HK.out]) (by have := HK.out; omega) Hvl.out b.toNat_lt (congrArg (Value.int .u64) (or_step (j := 3) (r := 3) (v := v) (b := b.toNat) (k := kk) (P := 16777216) (by have := HK.out; omega) (by omega) Hvl.out b.toNat_lt rfl))
        · have HK := Lib.hid hkk
          clear hkk
          go_wp2
          go_still_tail 13, (by kernel_rfl)
          change wpList _ _ _ _ _ wr.drew
          go_wp2
          refine ⟨⟨kk + 1, m, by have := HK.out; omega, by rw [HK.out]; rfl, rfl, by have := HK.out; omega, ?_⟩, by simp [RowKit.intOf]⟩
          rw [Hnx.out]
          exact from_step HB.out (Nat.le_refl _) Hb0.out hbx.out (by rw [HK.out]) (by have := HK.out; omega) Hvl.out b.toNat_lt (congrArg (Value.int .u64) (or_step (j := 3) (r := 4) (v := v) (b := b.toNat) (k := kk) (P := 4294967296) (by have := HK.out; omega) (by omega) Hvl.out b.toNat_lt rfl))
        · have HK := Lib.hid hkk
          clear hkk
          go_wp2
          go_still_tail 13, (by kernel_rfl)
          change wpList _ _ _ _ _ wr.drew
          go_wp2
          refine ⟨⟨kk + 1, m, by have := HK.out; omega, by rw [HK.out]; rfl, rfl, by have := HK.out; omega, ?_⟩, by simp [RowKit.intOf]⟩
          rw [Hnx.out]
          exact from_step HB.out (Nat.le_refl _) Hb0.out hbx.out (by rw [HK.out]) (by have := HK.out; omega) Hvl.out b.toNat_lt (congrArg (Value.int .u64) (or_step (j := 3) (r := 5) (v := v) (b := b.toNat) (k := kk) (P := 1099511627776) (by have := HK.out; omega) (by omega) Hvl.out b.toNat_lt rfl))
        · have HK := Lib.hid hkk
          clear hkk
          go_wp2
          go_still_tail 13, (by kernel_rfl)
          change wpList _ _ _ _ _ wr.drew
          go_wp2
          refine ⟨⟨kk + 1, m, by have := HK.out; omega, by rw [HK.out]; rfl, rfl, by have := HK.out; omega, ?_⟩, by simp [RowKit.intOf]⟩
          rw [Hnx.out]
          exact from_step HB.out (Nat.le_refl _) Hb0.out hbx.out (by rw [HK.out]) (by have := HK.out; omega) Hvl.out b.toNat_lt (congrArg (Value.int .u64) (or_step (j := 3) (r := 6) (v := v) (b := b.toNat) (k := kk) (P := 281474976710656) (by have := HK.out; omega) (by omega) Hvl.out b.toNat_lt rfl))
        · have HK := Lib.hid hkk
          clear hkk
          go_wp2
          go_still_tail 13, (by kernel_rfl)
          change wpList _ _ _ _ _ wr.drew
          go_wp2
          refine ⟨⟨kk + 1, m, by have := HK.out; omega, by rw [HK.out]; rfl, rfl, by have := HK.out; omega, ?_⟩, by simp [RowKit.intOf]⟩
          rw [Hnx.out]
          exact from_step HB.out (Nat.le_refl _) Hb0.out hbx.out (by rw [HK.out]) (by have := HK.out; omega) Hvl.out b.toNat_lt (congrArg (Value.int .u64) (or_step (j := 3) (r := 7) (v := v) (b := b.toNat) (k := kk) (P := 72057594037927936) (by have := HK.out; omega) (by omega) Hvl.out b.toNat_lt rfl))
end Go.Proofs.YtlelgbmbmajfmaaGreatDoor
/- Contract of the reference's words as bytes. -/
namespace Go.Proofs.YtlelgbmbmajfmaaGreatDoor
open Go.RowKit Go.Lib
end Go.Proofs.YtlelgbmbmajfmaaGreatDoor
/- Contract of the reference's bytes as a word. -/
namespace Go.Proofs.YtlelgbmbmajfmaaGreatDoor
open Go.RowKit Go.Lib
end Go.Proofs.YtlelgbmbmajfmaaGreatDoor
/- Two words compared: '==' of arrays of four numbers. -/
namespace Go.Proofs.YtlelgbmbmajfmaaGreatDoor
open Go.RowKit Go.Shelf Go.Lib
theorem infoU64 : (Tryz.prog.info? 22).isSome = true := by kernel_rfl
theorem cellsU64 : Tryz.prog.cellsOf 22 = 1 := by kernel_rfl
theorem plainU64 : Tryz.prog.plainKey 22 = true := by kernel_rfl
set_option maxRecDepth 100000 in
theorem eq_word (x0 x1 x2 x3 y0 y1 y2 y3 : Int) (W : World) :
    (Op.equalIn 10000 24 (.agg #[.int .u64 x0, .int .u64 x1, .int .u64 x2, .int .u64 x3]) (.agg #[.int .u64 y0, .int .u64 y1, .int .u64 y2, .int .u64 y3])).run Tryz.prog W = .ok (x0 == y0 && (x1 == y1 && (x2 == y2 && x3 == y3))) W := by
  obtain ⟨i, hi⟩ := Option.isSome_iff_exists.1 infoU64
  rw [show (10000 : Nat) = 9999 + 1 from rfl, run_equalIn_array W 9999 _ _ Tryz.underlying24 hi, cellsU64]
  have hr : List.range 4 = [0, 1, 2, 3] := rfl
  rw [hr]
  have hp : ∀ (v0 v1 v2 v3 : Int) (k : Nat) (u : Value) (W : World), (#[Value.int .u64 v0, .int .u64 v1, .int .u64 v2, .int .u64 v3])[k]? = some u → (Go.part 22 #[Value.int .u64 v0, .int .u64 v1, .int .u64 v2, .int .u64 v3] k).run Tryz.prog W = .ok u W := fun v0 v1 v2 v3 k u W h => run_part_plain W plainU64 h
  have he : ∀ (a b : Int) (W : World), (Op.equalIn 9999 22 (.int .u64 a) (.int .u64 b)).run Tryz.prog W = .ok (a == b) W := fun a b W => run_equalIn_int W 9998 _ _ _ _ _ Tryz.underlying22
  simp only [Op.eqItems, Sem.run_bind, Nat.mul_one, hp x0 x1 x2 x3 0 (.int .u64 x0) _ rfl, hp x0 x1 x2 x3 1 (.int .u64 x1) _ rfl, hp x0 x1 x2 x3 2 (.int .u64 x2) _ rfl, hp x0 x1 x2 x3 3 (.int .u64 x3) _ rfl, hp y0 y1 y2 y3 0 (.int .u64 y0) _ rfl, hp y0 y1 y2 y3 1 (.int .u64 y1) _ rfl, hp y0 y1 y2 y3 2 (.int .u64 y2) _ rfl, hp y0 y1 y2 y3 3 (.int .u64 y3) _ rfl, Result.andThen_ok, he, Sem.run_ite]
  cases (x0 == y0) <;> cases (x1 == y1) <;> cases (x2 == y2) <;> cases (x3 == y3) <;> simp
theorem eq_wordV {u v : Nat} (hu : u < 256 ^ 32) (hv : v < 256 ^ 32) (W : World) : (Op.equalIn 10000 24 (wordV u) (wordV v)).run Tryz.prog W = .ok (decide (u = v)) W := by
  unfold wordV
  rw [eq_word]
  congr 1
  by_cases h : u = v
  · subst h; simp
  · have hn : ¬ (limb u 0 = limb v 0 ∧ limb u 1 = limb v 1 ∧ limb u 2 = limb v 2 ∧ limb u 3 = limb v 3) := by
      rintro ⟨h0, h1, h2, h3⟩
      apply h
      rw [← ofLimbs_limb hu, ← ofLimbs_limb hv, h0, h1, h2, h3]
    rw [decide_eq_false h]
    apply Bool.eq_false_iff.2
    intro e
    simp only [Bool.and_eq_true, beq_iff_eq, Int.ofNat_inj] at e
    exact hn e
end Go.Proofs.YtlelgbmbmajfmaaGreatDoor
