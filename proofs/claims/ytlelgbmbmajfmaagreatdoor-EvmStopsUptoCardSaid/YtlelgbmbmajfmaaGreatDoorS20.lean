/- What the walks take: Ew14. -/
import Derived.Test.YtlelgbmbmajfmaaGreatDoorS3
import Derived.Test.YtlelgbmbmajfmaaGreatDoorS5
import Derived.Test.YtlelgbmbmajfmaaGreatDoorProg
import Derived.WalkKit
import Derived.Laws.BitsLemmas
import Derived.RangeFuncRecord
namespace Go.Proofs.YtlelgbmbmajfmaaGreatDoor
open Go.RowKit
def lv (x : UInt64) : Int := (x.toNat : Int)
theorem wrap64_nat (n : Nat) (h : n < 18446744073709551616) : IntKind.u64.wrap (n : Int) = n := by rw [IntKind.wrap_u64]; omega
theorem ofInt_lv (x : UInt64) : BitVec.ofInt 64 (lv x) = x.toBitVec := by
  unfold lv
  rw [BitVec.ofInt_natCast]
  exact (BitVec.ofNat_toNat 64 x.toBitVec).trans (BitVec.setWidth_eq _)
theorem lv_and (x y : UInt64) : bits .and .u64 (lv x) (lv y) = lv (x &&& y) := by
  show IntKind.u64.wrap ((BitVec.ofInt 64 (lv x) &&& BitVec.ofInt 64 (lv y)).toNat : Int) = _
  rw [ofInt_lv, ofInt_lv, wrap64_nat _ (BitVec.isLt _)]
  rfl
theorem lv_or (x y : UInt64) : bits .or .u64 (lv x) (lv y) = lv (x ||| y) := by
  show IntKind.u64.wrap ((BitVec.ofInt 64 (lv x) ||| BitVec.ofInt 64 (lv y)).toNat : Int) = _
  rw [ofInt_lv, ofInt_lv, wrap64_nat _ (BitVec.isLt _)]
  rfl
theorem lv_xor (x y : UInt64) : bits .xor .u64 (lv x) (lv y) = lv (x ^^^ y) := by
  show IntKind.u64.wrap ((BitVec.ofInt 64 (lv x) ^^^ BitVec.ofInt 64 (lv y)).toNat : Int) = _
  rw [ofInt_lv, ofInt_lv, wrap64_nat _ (BitVec.isLt _)]
  rfl
theorem lv_not (x : UInt64) : bits .xor .u64 18446744073709551615 (lv x) = lv (~~~x) := by
  have e : (18446744073709551615 : Int) = lv 18446744073709551615 := by rfl
  rw [e, lv_xor]
  congr 1
theorem lv_notM (x : UInt64) : bits .xor .u64 IntKind.u64.max (lv x) = lv (~~~x) := lv_not x
theorem lv_shl (x : UInt64) (k : Nat) (hk : k < 64) : lv x * ((2 ^ k : Nat) : Int) % 18446744073709551616 = lv (x <<< UInt64.ofNat k) := by
  unfold lv
  have h : (UInt64.ofNat k).toNat = k := by simp; omega
  rw [UInt64.toNat_shiftLeft, h, Nat.mod_eq_of_lt hk, Nat.shiftLeft_eq, Int.natCast_emod, Int.natCast_mul]
  rfl
theorem lv_shr (x : UInt64) (k : Nat) (hk : k < 64) : lv x / ((2 ^ k : Nat) : Int) = lv (x >>> UInt64.ofNat k) := by
  unfold lv
  have h : (UInt64.ofNat k).toNat = k := by simp; omega
  rw [UInt64.toNat_shiftRight, h, Nat.mod_eq_of_lt hk, Nat.shiftRight_eq_div_pow]
  exact (Int.natCast_ediv _ _).symm
theorem ret_u64 {a b : Int} (h : a = b) : Ending.returned (.int .u64 a) = .returned (.int .u64 b) := by rw [h]
theorem and63 (n : Nat) (hn : n < 64) : bits .and .u64 (n : Int) 63 = n := by
  have h := lv_and (UInt64.ofNat n) 63
  have e1 : lv (UInt64.ofNat n) = (n : Int) := by unfold lv; simp; omega
  have e2 : lv 63 = 63 := by rfl
  have e3 : UInt64.ofNat n &&& 63 = UInt64.ofNat n := by
    apply UInt64.toNat_inj.1
    rw [UInt64.toNat_and]
    have h1 : (UInt64.ofNat n).toNat = n := by simp; omega
    have h2 : (63 : UInt64).toNat = 2 ^ 6 - 1 := by decide
    rw [h1, h2, Nat.and_two_pow_sub_one_eq_mod]
    omega
  rw [e1, e2, e3, e1] at h
  exact h
set_option maxHeartbeats 1000000 in
theorem rotl_any (x : UInt64) (n : Nat) (h0 : 0 < n) (h1 : n < 64) (w : World) : Calls Tryz.prog 71 #[.int .u64 (lv x), .int .i64 n] w fun e w' => e = .returned (.int .u64 (lv (rotl x n))) ∧ w' = w := by
  have hs : IntKind.u64.wrap (n : Int) = (n : Int) := wrap64_nat n (by omega)
  have ha := and63 n h1
  go_enter Tryz.func71, Tryz.ntmps71
  go_wp2
  go_ret
  refine ⟨ret_u64 ?_, rfl⟩
  have e1 := lv_shl x n h1
  have e2 := lv_shr x (64 - n) (by omega)
  rw [Int.natCast_pow] at e1 e2
  have c2 : ((2 : Nat) : Int) = 2 := rfl
  rw [c2] at e1 e2
  rw [IntKind.wrap_u64, e1, e2, lv_or]
  rfl
def Lanes (N : Nat) (W : World) (b : Nat) (f : Nat → UInt64) : Prop := ∃ cs t, W.heap[b]? = some (.cells cs t (0, 0)) ∧ cs.size = N ∧ ∀ j, j < N → cs[j]? = some (.int .u64 (lv (f j)))
theorem Lanes.lt {N : Nat} {W : World} {b : Nat} {f : Nat → UInt64} (h : Lanes N W b f) : b < W.heap.size := by
  obtain ⟨cs, t, h1, _⟩ := h
  exact (Array.getElem?_eq_some_iff.1 h1).1
theorem Lanes.cell {N : Nat} {W : World} {b : Nat} {f : Nat → UInt64} (h : Lanes N W b f) {j : Nat} (hj : j < N) : W.cell? ⟨b, j, none⟩ = some (.int .u64 (lv (f j))) := by
  obtain ⟨cs, t, h1, h2, h3⟩ := h
  rw [World.cell?, h1]
  exact h3 j hj
theorem Lanes.frozen {N : Nat} {W : World} {b : Nat} {f : Nat → UInt64} (h : Lanes N W b f) (j : Nat) : W.frozen? ⟨b, j, none⟩ = false := by
  obtain ⟨cs, t, h1, h2, h3⟩ := h
  rw [World.frozen?, h1]; simp
theorem Lanes.set {N : Nat} {W : World} {b : Nat} {f : Nat → UInt64} (h : Lanes N W b f) {i : Nat} (hi : i < N) (v : UInt64) : Lanes N (W.setCell ⟨b, i, none⟩ (.int .u64 (lv v))) b (upd f i v) := by
  obtain ⟨cs, t, h1, h2, h3⟩ := h
  obtain ⟨hlt, hk⟩ := Array.getElem?_eq_some_iff.1 h1
  refine ⟨cs.setIfInBounds i (.int .u64 (lv v)), t, ?_, by rw [Array.size_setIfInBounds, h2], fun j hj => ?_⟩
  · show (W.heap.modify b _)[b]? = _
    rw [Array.getElem?_eq_getElem (by rw [Array.size_modify]; exact hlt), Array.getElem_modify_self, hk]
    rfl
  · by_cases hji : j = i
    · subst hji
      rw [Array.getElem?_setIfInBounds_self_of_lt (by omega), upd_at]
    · rw [Array.getElem?_setIfInBounds_ne (fun e => hji e.symm), upd_other _ _ hji, h3 j hj]
theorem Lanes.kept {N : Nat} {W W' : World} {b : Nat} {f : Nat → UInt64} (h : Lanes N W b f) (hb : W'.heap[b]? = W.heap[b]?) : Lanes N W' b f := by
  obtain ⟨cs, t, h1, h2, h3⟩ := h
  exact ⟨cs, t, hb.trans h1, h2, h3⟩
theorem Lanes.ext {N : Nat} {W : World} {b : Nat} {f g : Nat → UInt64} (h : Lanes N W b f) (hfg : ∀ j, j < N → f j = g j) : Lanes N W b g := by
  obtain ⟨cs, t, h1, h2, h3⟩ := h
  exact ⟨cs, t, h1, h2, fun j hj => by rw [← hfg j hj]; exact h3 j hj⟩
theorem Lanes.below {N B : Nat} {W W' : World} {b : Nat} {f : Nat → UInt64} (h : Lanes N W b f) (hb : Below B W W') (hB : b < B) : Lanes N W' b f := h.kept (hb.block b hB)
theorem Lanes.setOther {N : Nat} {W : World} {b c i : Nat} {f : Nat → UInt64} (h : Lanes N W b f) (hne : b ≠ c) (v : Value) : Lanes N (W.setCell ⟨c, i, none⟩ v) b f := h.kept (Below.heap_setCell W ⟨c, i, none⟩ v b hne)
theorem Lanes.alloc {N : Nat} {W : World} {b : Nat} {f : Nat → UInt64} (h : Lanes N W b f) (o : Obj) : Lanes N (W.alloc o) b f := h.kept (Below.heap_alloc W o b h.lt)
structure But64 (h : Nat) (w w' : World) : Prop where
  os : w'.os = w.os
  tape : w'.tape = w.tape
  output : w'.output = w.output
  size : w.heap.size ≤ w'.heap.size
  block : ∀ j, j < w.heap.size → j ≠ h → w'.heap[j]? = w.heap[j]?
theorem But64.refl (h : Nat) (w : World) : But64 h w w := ⟨rfl, rfl, rfl, Nat.le_refl _, fun _ _ _ => rfl⟩
theorem But64.trans {h : Nat} {a b c : World} (p : But64 h a b) (q : But64 h b c) : But64 h a c :=
  ⟨q.os.trans p.os, q.tape.trans p.tape, q.output.trans p.output, Nat.le_trans p.size q.size, fun j hj hne => (q.block j (Nat.lt_of_lt_of_le hj p.size) hne).trans (p.block j hj hne)⟩
theorem But64.alloc {h : Nat} {a b : World} (p : But64 h a b) (o : Obj) : But64 h a (b.alloc o) :=
  ⟨p.os, p.tape, p.output, by rw [World.size_alloc]; exact Nat.le_succ_of_le p.size, fun j hj hne => (Below.heap_alloc _ _ _ (Nat.lt_of_lt_of_le hj p.size)).trans (p.block j hj hne)⟩
theorem But64.drew {h : Nat} {a b : World} (p : But64 h a b) : But64 h a b.drew := ⟨p.os, p.tape, p.output, p.size, p.block⟩
theorem But64.set {h : Nat} {a b : World} (p : But64 h a b) {q i : Nat} (hq : q = h ∨ a.heap.size ≤ q) (v : Value) : But64 h a (b.setCell ⟨q, i, none⟩ v) :=
  ⟨p.os, p.tape, p.output, by rw [World.size_setCell]; exact p.size, fun j hj hne => (Below.heap_setCell b ⟨q, i, none⟩ v j (fun e => by have e' : j = q := e; rcases hq with hq | hq <;> omega)).trans (p.block j hj hne)⟩
theorem But64.of_below {h : Nat} {a b : World} (p : Below a.heap.size a b) : But64 h a b := ⟨p.os, p.tape, p.output, p.size, fun j hj _ => p.block j hj⟩
theorem Lanes.new (N : Nat) (W : World) (f : Nat → UInt64) (cs : Array Value) (t : TypeId) (hn : cs.size = N) (hc : ∀ j, j < N → cs[j]? = some (.int .u64 (lv (f j)))) : Lanes N (W.alloc (.cells cs t)) W.heap.size f :=
  ⟨cs, t, World.alloc_heap_new W _, hn, hc⟩
theorem lanes_zero (N : Nat) (W : World) (t : TypeId) : Lanes N (W.alloc (.cells (List.replicate N (Value.int .u64 0)).toArray t)) W.heap.size zeroL :=
  Lanes.new N W zeroL _ t (by simp) (fun j hj => by simp [hj]; rfl)
end Go.Proofs.YtlelgbmbmajfmaaGreatDoor
