/- Words of 32 bits in the model: what its operations give; the contract of the turn. -/
import Derived.Test.YtpfmdhcmhcoddaaGreatDoorKit
import Derived.Test.YtpfmdhcmhcoddaaGreatDoorProg
import Derived.WalkKit
import Derived.Laws.BitsLemmas
namespace Go.Proofs.YtpfmdhcmhcoddaaGreatDoor
open Go.RowKit

/-- a word's number -/
def wv (x : UInt32) : Int := (x.toNat : Int)
theorem wv_lt (x : UInt32) : 0 ≤ wv x ∧ wv x < 4294967296 := by
  unfold wv
  have := x.toNat_lt
  omega
/-- a word turned right -/
def rotr (x n : UInt32) : UInt32 := (x >>> n) ||| (x <<< (32 - n))
theorem wrap32_nat (n : Nat) (h : n < 4294967296) : IntKind.u32.wrap (n : Int) = n := by rw [IntKind.wrap_u32]; omega
theorem ofInt_wv (x : UInt32) : BitVec.ofInt 32 (wv x) = x.toBitVec := by
  unfold wv
  rw [BitVec.ofInt_natCast]
  exact (BitVec.ofNat_toNat 32 x.toBitVec).trans (BitVec.setWidth_eq _)
theorem wv_and (x y : UInt32) : bits .and .u32 (wv x) (wv y) = wv (x &&& y) := by
  show IntKind.u32.wrap ((BitVec.ofInt 32 (wv x) &&& BitVec.ofInt 32 (wv y)).toNat : Int) = _
  rw [ofInt_wv, ofInt_wv, wrap32_nat _ (BitVec.isLt _)]
  rfl
theorem wv_or (x y : UInt32) : bits .or .u32 (wv x) (wv y) = wv (x ||| y) := by
  show IntKind.u32.wrap ((BitVec.ofInt 32 (wv x) ||| BitVec.ofInt 32 (wv y)).toNat : Int) = _
  rw [ofInt_wv, ofInt_wv, wrap32_nat _ (BitVec.isLt _)]
  rfl
theorem wv_xor (x y : UInt32) : bits .xor .u32 (wv x) (wv y) = wv (x ^^^ y) := by
  show IntKind.u32.wrap ((BitVec.ofInt 32 (wv x) ^^^ BitVec.ofInt 32 (wv y)).toNat : Int) = _
  rw [ofInt_wv, ofInt_wv, wrap32_nat _ (BitVec.isLt _)]
  rfl
theorem wv_not (x : UInt32) : bits .xor .u32 4294967295 (wv x) = wv (~~~x) := by
  have e : (4294967295 : Int) = wv 4294967295 := by rfl
  rw [e, wv_xor]
  congr 1
theorem wv_add (x y : UInt32) : (wv x + wv y) % 4294967296 = wv (x + y) := by
  unfold wv
  rw [UInt32.toNat_add]
  omega
theorem wv_shl (x k : UInt32) (p : Nat) (hk : k.toNat < 32) (hp : p = 2 ^ k.toNat) : wv x * p % 4294967296 = wv (x <<< k) := by
  unfold wv
  rw [UInt32.toNat_shiftLeft, Nat.mod_eq_of_lt hk, Nat.shiftLeft_eq, ← hp, Int.natCast_emod, Int.natCast_mul]
  rfl
theorem wv_shr (x k : UInt32) (p : Nat) (hk : k.toNat < 32) (hp : p = 2 ^ k.toNat) : wv x / p = wv (x >>> k) := by
  unfold wv
  rw [UInt32.toNat_shiftRight, Nat.mod_eq_of_lt hk, Nat.shiftRight_eq_div_pow, ← hp]
  exact (Int.natCast_ediv _ _).symm
theorem wv_shl7 (x : UInt32) : wv x * (128 : Int) % (4294967296 : Int) = wv (x <<< (7 : UInt32)) := wv_shl x 7 128 (by decide) (by decide)
theorem wv_shl8 (x : UInt32) : wv x * (256 : Int) % (4294967296 : Int) = wv (x <<< (8 : UInt32)) := wv_shl x 8 256 (by decide) (by decide)
theorem wv_shl10 (x : UInt32) : wv x * (1024 : Int) % (4294967296 : Int) = wv (x <<< (10 : UInt32)) := wv_shl x 10 1024 (by decide) (by decide)
theorem wv_shl13 (x : UInt32) : wv x * (8192 : Int) % (4294967296 : Int) = wv (x <<< (13 : UInt32)) := wv_shl x 13 8192 (by decide) (by decide)
theorem wv_shl14 (x : UInt32) : wv x * (16384 : Int) % (4294967296 : Int) = wv (x <<< (14 : UInt32)) := wv_shl x 14 16384 (by decide) (by decide)
theorem wv_shl15 (x : UInt32) : wv x * (32768 : Int) % (4294967296 : Int) = wv (x <<< (15 : UInt32)) := wv_shl x 15 32768 (by decide) (by decide)
theorem wv_shl16 (x : UInt32) : wv x * (65536 : Int) % (4294967296 : Int) = wv (x <<< (16 : UInt32)) := wv_shl x 16 65536 (by decide) (by decide)
theorem wv_shl19 (x : UInt32) : wv x * (524288 : Int) % (4294967296 : Int) = wv (x <<< (19 : UInt32)) := wv_shl x 19 524288 (by decide) (by decide)
theorem wv_shl21 (x : UInt32) : wv x * (2097152 : Int) % (4294967296 : Int) = wv (x <<< (21 : UInt32)) := wv_shl x 21 2097152 (by decide) (by decide)
theorem wv_shl24 (x : UInt32) : wv x * (16777216 : Int) % (4294967296 : Int) = wv (x <<< (24 : UInt32)) := wv_shl x 24 16777216 (by decide) (by decide)
theorem wv_shl25 (x : UInt32) : wv x * (33554432 : Int) % (4294967296 : Int) = wv (x <<< (25 : UInt32)) := wv_shl x 25 33554432 (by decide) (by decide)
theorem wv_shl26 (x : UInt32) : wv x * (67108864 : Int) % (4294967296 : Int) = wv (x <<< (26 : UInt32)) := wv_shl x 26 67108864 (by decide) (by decide)
theorem wv_shl30 (x : UInt32) : wv x * (1073741824 : Int) % (4294967296 : Int) = wv (x <<< (30 : UInt32)) := wv_shl x 30 1073741824 (by decide) (by decide)
theorem wv_shl7w (x : UInt32) : IntKind.u32.wrap (wv x * (128 : Int)) = wv (x <<< (7 : UInt32)) := (IntKind.wrap_u32 _).trans (wv_shl7 x)
theorem wv_shl8w (x : UInt32) : IntKind.u32.wrap (wv x * (256 : Int)) = wv (x <<< (8 : UInt32)) := (IntKind.wrap_u32 _).trans (wv_shl8 x)
theorem wv_shl10w (x : UInt32) : IntKind.u32.wrap (wv x * (1024 : Int)) = wv (x <<< (10 : UInt32)) := (IntKind.wrap_u32 _).trans (wv_shl10 x)
theorem wv_shl13w (x : UInt32) : IntKind.u32.wrap (wv x * (8192 : Int)) = wv (x <<< (13 : UInt32)) := (IntKind.wrap_u32 _).trans (wv_shl13 x)
theorem wv_shl14w (x : UInt32) : IntKind.u32.wrap (wv x * (16384 : Int)) = wv (x <<< (14 : UInt32)) := (IntKind.wrap_u32 _).trans (wv_shl14 x)
theorem wv_shl15w (x : UInt32) : IntKind.u32.wrap (wv x * (32768 : Int)) = wv (x <<< (15 : UInt32)) := (IntKind.wrap_u32 _).trans (wv_shl15 x)
theorem wv_shl16w (x : UInt32) : IntKind.u32.wrap (wv x * (65536 : Int)) = wv (x <<< (16 : UInt32)) := (IntKind.wrap_u32 _).trans (wv_shl16 x)
theorem wv_shl19w (x : UInt32) : IntKind.u32.wrap (wv x * (524288 : Int)) = wv (x <<< (19 : UInt32)) := (IntKind.wrap_u32 _).trans (wv_shl19 x)
theorem wv_shl21w (x : UInt32) : IntKind.u32.wrap (wv x * (2097152 : Int)) = wv (x <<< (21 : UInt32)) := (IntKind.wrap_u32 _).trans (wv_shl21 x)
theorem wv_shl24w (x : UInt32) : IntKind.u32.wrap (wv x * (16777216 : Int)) = wv (x <<< (24 : UInt32)) := (IntKind.wrap_u32 _).trans (wv_shl24 x)
theorem wv_shl25w (x : UInt32) : IntKind.u32.wrap (wv x * (33554432 : Int)) = wv (x <<< (25 : UInt32)) := (IntKind.wrap_u32 _).trans (wv_shl25 x)
theorem wv_shl26w (x : UInt32) : IntKind.u32.wrap (wv x * (67108864 : Int)) = wv (x <<< (26 : UInt32)) := (IntKind.wrap_u32 _).trans (wv_shl26 x)
theorem wv_shl30w (x : UInt32) : IntKind.u32.wrap (wv x * (1073741824 : Int)) = wv (x <<< (30 : UInt32)) := (IntKind.wrap_u32 _).trans (wv_shl30 x)
theorem wv_addw (x y : UInt32) : IntKind.u32.wrap (wv x + wv y) = wv (x + y) := (IntKind.wrap_u32 _).trans (wv_add x y)
theorem wv_shr2 (x : UInt32) : wv x / (4 : Int) = wv (x >>> (2 : UInt32)) := wv_shr x 2 4 (by decide) (by decide)
theorem wv_shr3 (x : UInt32) : wv x / (8 : Int) = wv (x >>> (3 : UInt32)) := wv_shr x 3 8 (by decide) (by decide)
theorem wv_shr6 (x : UInt32) : wv x / (64 : Int) = wv (x >>> (6 : UInt32)) := wv_shr x 6 64 (by decide) (by decide)
theorem wv_shr7 (x : UInt32) : wv x / (128 : Int) = wv (x >>> (7 : UInt32)) := wv_shr x 7 128 (by decide) (by decide)
theorem wv_shr8 (x : UInt32) : wv x / (256 : Int) = wv (x >>> (8 : UInt32)) := wv_shr x 8 256 (by decide) (by decide)
theorem wv_shr10 (x : UInt32) : wv x / (1024 : Int) = wv (x >>> (10 : UInt32)) := wv_shr x 10 1024 (by decide) (by decide)
theorem wv_shr11 (x : UInt32) : wv x / (2048 : Int) = wv (x >>> (11 : UInt32)) := wv_shr x 11 2048 (by decide) (by decide)
theorem wv_shr13 (x : UInt32) : wv x / (8192 : Int) = wv (x >>> (13 : UInt32)) := wv_shr x 13 8192 (by decide) (by decide)
theorem wv_shr16 (x : UInt32) : wv x / (65536 : Int) = wv (x >>> (16 : UInt32)) := wv_shr x 16 65536 (by decide) (by decide)
theorem wv_shr17 (x : UInt32) : wv x / (131072 : Int) = wv (x >>> (17 : UInt32)) := wv_shr x 17 131072 (by decide) (by decide)
theorem wv_shr18 (x : UInt32) : wv x / (262144 : Int) = wv (x >>> (18 : UInt32)) := wv_shr x 18 262144 (by decide) (by decide)
theorem wv_shr19 (x : UInt32) : wv x / (524288 : Int) = wv (x >>> (19 : UInt32)) := wv_shr x 19 524288 (by decide) (by decide)
theorem wv_shr22 (x : UInt32) : wv x / (4194304 : Int) = wv (x >>> (22 : UInt32)) := wv_shr x 22 4194304 (by decide) (by decide)
theorem wv_shr24 (x : UInt32) : wv x / (16777216 : Int) = wv (x >>> (24 : UInt32)) := wv_shr x 24 16777216 (by decide) (by decide)
theorem wv_shr25 (x : UInt32) : wv x / (33554432 : Int) = wv (x >>> (25 : UInt32)) := wv_shr x 25 33554432 (by decide) (by decide)
theorem ret_u32 {a b : Int} (h : a = b) : Ending.returned (.int .u32 a) = .returned (.int .u32 b) := by rw [h]
theorem rotl_2 (x : UInt32) (w : World) : Calls Tryz.prog 277 #[.int .u32 (wv x), .int .i64 (-2)] w fun e w' => e = .returned (.int .u32 (wv (rotr x 2))) ∧ w = w' := by
  have hs : bits .and .u64 (IntKind.u64.wrap (-2)) 31 = 30 := by decide
  go_enter Tryz.func277, Tryz.ntmps277
  go_wp2
  go_ret
  refine ⟨ret_u32 ?_, rfl⟩
  rw [wv_shl30, wv_shr2, wv_or, UInt32.or_comm]
  rfl
theorem turn_2 (x : UInt32) (w : World) : Calls Tryz.prog 235 #[.int .u32 (wv x), .int .i64 2] w fun e w' => e = .returned (.int .u32 (wv (rotr x 2))) ∧ w = w' := by
  go_enter Tryz.func235, Tryz.ntmps235
  go_wp2_with (go_at_call 277; refine (rotl_2 _ _).mono ?_; rintro e w' ⟨rfl, rfl⟩)
  go_ret
  exact ⟨rfl, rfl⟩
theorem turnS_2 (x : UInt32) (w : World) : Calls Tryz.prog 235 #[.int .u32 (wv x), .int .i64 2] w fun e w' => e = .returned (.int .u32 (wv (rotr x 2))) ∧ w' = w := (turn_2 x w).mono fun _ _ ⟨h, h2⟩ => ⟨h, h2.symm⟩
theorem rotl_6 (x : UInt32) (w : World) : Calls Tryz.prog 277 #[.int .u32 (wv x), .int .i64 (-6)] w fun e w' => e = .returned (.int .u32 (wv (rotr x 6))) ∧ w = w' := by
  have hs : bits .and .u64 (IntKind.u64.wrap (-6)) 31 = 26 := by decide
  go_enter Tryz.func277, Tryz.ntmps277
  go_wp2
  go_ret
  refine ⟨ret_u32 ?_, rfl⟩
  rw [wv_shl26, wv_shr6, wv_or, UInt32.or_comm]
  rfl
theorem turn_6 (x : UInt32) (w : World) : Calls Tryz.prog 235 #[.int .u32 (wv x), .int .i64 6] w fun e w' => e = .returned (.int .u32 (wv (rotr x 6))) ∧ w = w' := by
  go_enter Tryz.func235, Tryz.ntmps235
  go_wp2_with (go_at_call 277; refine (rotl_6 _ _).mono ?_; rintro e w' ⟨rfl, rfl⟩)
  go_ret
  exact ⟨rfl, rfl⟩
theorem turnS_6 (x : UInt32) (w : World) : Calls Tryz.prog 235 #[.int .u32 (wv x), .int .i64 6] w fun e w' => e = .returned (.int .u32 (wv (rotr x 6))) ∧ w' = w := (turn_6 x w).mono fun _ _ ⟨h, h2⟩ => ⟨h, h2.symm⟩
theorem rotl_7 (x : UInt32) (w : World) : Calls Tryz.prog 277 #[.int .u32 (wv x), .int .i64 (-7)] w fun e w' => e = .returned (.int .u32 (wv (rotr x 7))) ∧ w = w' := by
  have hs : bits .and .u64 (IntKind.u64.wrap (-7)) 31 = 25 := by decide
  go_enter Tryz.func277, Tryz.ntmps277
  go_wp2
  go_ret
  refine ⟨ret_u32 ?_, rfl⟩
  rw [wv_shl25, wv_shr7, wv_or, UInt32.or_comm]
  rfl
theorem turn_7 (x : UInt32) (w : World) : Calls Tryz.prog 235 #[.int .u32 (wv x), .int .i64 7] w fun e w' => e = .returned (.int .u32 (wv (rotr x 7))) ∧ w = w' := by
  go_enter Tryz.func235, Tryz.ntmps235
  go_wp2_with (go_at_call 277; refine (rotl_7 _ _).mono ?_; rintro e w' ⟨rfl, rfl⟩)
  go_ret
  exact ⟨rfl, rfl⟩
theorem turnS_7 (x : UInt32) (w : World) : Calls Tryz.prog 235 #[.int .u32 (wv x), .int .i64 7] w fun e w' => e = .returned (.int .u32 (wv (rotr x 7))) ∧ w' = w := (turn_7 x w).mono fun _ _ ⟨h, h2⟩ => ⟨h, h2.symm⟩
theorem rotl_11 (x : UInt32) (w : World) : Calls Tryz.prog 277 #[.int .u32 (wv x), .int .i64 (-11)] w fun e w' => e = .returned (.int .u32 (wv (rotr x 11))) ∧ w = w' := by
  have hs : bits .and .u64 (IntKind.u64.wrap (-11)) 31 = 21 := by decide
  go_enter Tryz.func277, Tryz.ntmps277
  go_wp2
  go_ret
  refine ⟨ret_u32 ?_, rfl⟩
  rw [wv_shl21, wv_shr11, wv_or, UInt32.or_comm]
  rfl
theorem turn_11 (x : UInt32) (w : World) : Calls Tryz.prog 235 #[.int .u32 (wv x), .int .i64 11] w fun e w' => e = .returned (.int .u32 (wv (rotr x 11))) ∧ w = w' := by
  go_enter Tryz.func235, Tryz.ntmps235
  go_wp2_with (go_at_call 277; refine (rotl_11 _ _).mono ?_; rintro e w' ⟨rfl, rfl⟩)
  go_ret
  exact ⟨rfl, rfl⟩
theorem turnS_11 (x : UInt32) (w : World) : Calls Tryz.prog 235 #[.int .u32 (wv x), .int .i64 11] w fun e w' => e = .returned (.int .u32 (wv (rotr x 11))) ∧ w' = w := (turn_11 x w).mono fun _ _ ⟨h, h2⟩ => ⟨h, h2.symm⟩
theorem rotl_13 (x : UInt32) (w : World) : Calls Tryz.prog 277 #[.int .u32 (wv x), .int .i64 (-13)] w fun e w' => e = .returned (.int .u32 (wv (rotr x 13))) ∧ w = w' := by
  have hs : bits .and .u64 (IntKind.u64.wrap (-13)) 31 = 19 := by decide
  go_enter Tryz.func277, Tryz.ntmps277
  go_wp2
  go_ret
  refine ⟨ret_u32 ?_, rfl⟩
  rw [wv_shl19, wv_shr13, wv_or, UInt32.or_comm]
  rfl
theorem turn_13 (x : UInt32) (w : World) : Calls Tryz.prog 235 #[.int .u32 (wv x), .int .i64 13] w fun e w' => e = .returned (.int .u32 (wv (rotr x 13))) ∧ w = w' := by
  go_enter Tryz.func235, Tryz.ntmps235
  go_wp2_with (go_at_call 277; refine (rotl_13 _ _).mono ?_; rintro e w' ⟨rfl, rfl⟩)
  go_ret
  exact ⟨rfl, rfl⟩
theorem turnS_13 (x : UInt32) (w : World) : Calls Tryz.prog 235 #[.int .u32 (wv x), .int .i64 13] w fun e w' => e = .returned (.int .u32 (wv (rotr x 13))) ∧ w' = w := (turn_13 x w).mono fun _ _ ⟨h, h2⟩ => ⟨h, h2.symm⟩
theorem rotl_17 (x : UInt32) (w : World) : Calls Tryz.prog 277 #[.int .u32 (wv x), .int .i64 (-17)] w fun e w' => e = .returned (.int .u32 (wv (rotr x 17))) ∧ w = w' := by
  have hs : bits .and .u64 (IntKind.u64.wrap (-17)) 31 = 15 := by decide
  go_enter Tryz.func277, Tryz.ntmps277
  go_wp2
  go_ret
  refine ⟨ret_u32 ?_, rfl⟩
  rw [wv_shl15, wv_shr17, wv_or, UInt32.or_comm]
  rfl
theorem turn_17 (x : UInt32) (w : World) : Calls Tryz.prog 235 #[.int .u32 (wv x), .int .i64 17] w fun e w' => e = .returned (.int .u32 (wv (rotr x 17))) ∧ w = w' := by
  go_enter Tryz.func235, Tryz.ntmps235
  go_wp2_with (go_at_call 277; refine (rotl_17 _ _).mono ?_; rintro e w' ⟨rfl, rfl⟩)
  go_ret
  exact ⟨rfl, rfl⟩
theorem turnS_17 (x : UInt32) (w : World) : Calls Tryz.prog 235 #[.int .u32 (wv x), .int .i64 17] w fun e w' => e = .returned (.int .u32 (wv (rotr x 17))) ∧ w' = w := (turn_17 x w).mono fun _ _ ⟨h, h2⟩ => ⟨h, h2.symm⟩
theorem rotl_18 (x : UInt32) (w : World) : Calls Tryz.prog 277 #[.int .u32 (wv x), .int .i64 (-18)] w fun e w' => e = .returned (.int .u32 (wv (rotr x 18))) ∧ w = w' := by
  have hs : bits .and .u64 (IntKind.u64.wrap (-18)) 31 = 14 := by decide
  go_enter Tryz.func277, Tryz.ntmps277
  go_wp2
  go_ret
  refine ⟨ret_u32 ?_, rfl⟩
  rw [wv_shl14, wv_shr18, wv_or, UInt32.or_comm]
  rfl
theorem turn_18 (x : UInt32) (w : World) : Calls Tryz.prog 235 #[.int .u32 (wv x), .int .i64 18] w fun e w' => e = .returned (.int .u32 (wv (rotr x 18))) ∧ w = w' := by
  go_enter Tryz.func235, Tryz.ntmps235
  go_wp2_with (go_at_call 277; refine (rotl_18 _ _).mono ?_; rintro e w' ⟨rfl, rfl⟩)
  go_ret
  exact ⟨rfl, rfl⟩
theorem turnS_18 (x : UInt32) (w : World) : Calls Tryz.prog 235 #[.int .u32 (wv x), .int .i64 18] w fun e w' => e = .returned (.int .u32 (wv (rotr x 18))) ∧ w' = w := (turn_18 x w).mono fun _ _ ⟨h, h2⟩ => ⟨h, h2.symm⟩
theorem rotl_19 (x : UInt32) (w : World) : Calls Tryz.prog 277 #[.int .u32 (wv x), .int .i64 (-19)] w fun e w' => e = .returned (.int .u32 (wv (rotr x 19))) ∧ w = w' := by
  have hs : bits .and .u64 (IntKind.u64.wrap (-19)) 31 = 13 := by decide
  go_enter Tryz.func277, Tryz.ntmps277
  go_wp2
  go_ret
  refine ⟨ret_u32 ?_, rfl⟩
  rw [wv_shl13, wv_shr19, wv_or, UInt32.or_comm]
  rfl
theorem turn_19 (x : UInt32) (w : World) : Calls Tryz.prog 235 #[.int .u32 (wv x), .int .i64 19] w fun e w' => e = .returned (.int .u32 (wv (rotr x 19))) ∧ w = w' := by
  go_enter Tryz.func235, Tryz.ntmps235
  go_wp2_with (go_at_call 277; refine (rotl_19 _ _).mono ?_; rintro e w' ⟨rfl, rfl⟩)
  go_ret
  exact ⟨rfl, rfl⟩
theorem turnS_19 (x : UInt32) (w : World) : Calls Tryz.prog 235 #[.int .u32 (wv x), .int .i64 19] w fun e w' => e = .returned (.int .u32 (wv (rotr x 19))) ∧ w' = w := (turn_19 x w).mono fun _ _ ⟨h, h2⟩ => ⟨h, h2.symm⟩
theorem rotl_22 (x : UInt32) (w : World) : Calls Tryz.prog 277 #[.int .u32 (wv x), .int .i64 (-22)] w fun e w' => e = .returned (.int .u32 (wv (rotr x 22))) ∧ w = w' := by
  have hs : bits .and .u64 (IntKind.u64.wrap (-22)) 31 = 10 := by decide
  go_enter Tryz.func277, Tryz.ntmps277
  go_wp2
  go_ret
  refine ⟨ret_u32 ?_, rfl⟩
  rw [wv_shl10, wv_shr22, wv_or, UInt32.or_comm]
  rfl
theorem turn_22 (x : UInt32) (w : World) : Calls Tryz.prog 235 #[.int .u32 (wv x), .int .i64 22] w fun e w' => e = .returned (.int .u32 (wv (rotr x 22))) ∧ w = w' := by
  go_enter Tryz.func235, Tryz.ntmps235
  go_wp2_with (go_at_call 277; refine (rotl_22 _ _).mono ?_; rintro e w' ⟨rfl, rfl⟩)
  go_ret
  exact ⟨rfl, rfl⟩
theorem turnS_22 (x : UInt32) (w : World) : Calls Tryz.prog 235 #[.int .u32 (wv x), .int .i64 22] w fun e w' => e = .returned (.int .u32 (wv (rotr x 22))) ∧ w' = w := (turn_22 x w).mono fun _ _ ⟨h, h2⟩ => ⟨h, h2.symm⟩
theorem rotl_25 (x : UInt32) (w : World) : Calls Tryz.prog 277 #[.int .u32 (wv x), .int .i64 (-25)] w fun e w' => e = .returned (.int .u32 (wv (rotr x 25))) ∧ w = w' := by
  have hs : bits .and .u64 (IntKind.u64.wrap (-25)) 31 = 7 := by decide
  go_enter Tryz.func277, Tryz.ntmps277
  go_wp2
  go_ret
  refine ⟨ret_u32 ?_, rfl⟩
  rw [wv_shl7, wv_shr25, wv_or, UInt32.or_comm]
  rfl
theorem turn_25 (x : UInt32) (w : World) : Calls Tryz.prog 235 #[.int .u32 (wv x), .int .i64 25] w fun e w' => e = .returned (.int .u32 (wv (rotr x 25))) ∧ w = w' := by
  go_enter Tryz.func235, Tryz.ntmps235
  go_wp2_with (go_at_call 277; refine (rotl_25 _ _).mono ?_; rintro e w' ⟨rfl, rfl⟩)
  go_ret
  exact ⟨rfl, rfl⟩
theorem turnS_25 (x : UInt32) (w : World) : Calls Tryz.prog 235 #[.int .u32 (wv x), .int .i64 25] w fun e w' => e = .returned (.int .u32 (wv (rotr x 25))) ∧ w' = w := (turn_25 x w).mono fun _ _ ⟨h, h2⟩ => ⟨h, h2.symm⟩
/-- a word turned right, by a number of the model -/
def rotz (x : UInt32) (n : Int) : UInt32 := rotr x (UInt32.ofNat n.toNat)
theorem rotz_2 (x : UInt32) : rotz x 2 = rotr x 2 := rfl
theorem rotz_6 (x : UInt32) : rotz x 6 = rotr x 6 := rfl
theorem rotz_7 (x : UInt32) : rotz x 7 = rotr x 7 := rfl
theorem rotz_11 (x : UInt32) : rotz x 11 = rotr x 11 := rfl
theorem rotz_13 (x : UInt32) : rotz x 13 = rotr x 13 := rfl
theorem rotz_17 (x : UInt32) : rotz x 17 = rotr x 17 := rfl
theorem rotz_18 (x : UInt32) : rotz x 18 = rotr x 18 := rfl
theorem rotz_19 (x : UInt32) : rotz x 19 = rotr x 19 := rfl
theorem rotz_22 (x : UInt32) : rotz x 22 = rotr x 22 := rfl
theorem rotz_25 (x : UInt32) : rotz x 25 = rotr x 25 := rfl
theorem turnz (x : UInt32) (n : Int) (w : World) (hn : n = 2 ∨ n = 6 ∨ n = 7 ∨ n = 11 ∨ n = 13 ∨ n = 17 ∨ n = 18 ∨ n = 19 ∨ n = 22 ∨ n = 25) : Calls Tryz.prog 235 #[.int .u32 (wv x), .int .i64 n] w fun e w' => e = .returned (.int .u32 (wv (rotz x n))) ∧ w = w' := by
  rcases hn with rfl | rfl | rfl | rfl | rfl | rfl | rfl | rfl | rfl | rfl
  · exact turn_2 x w
  · exact turn_6 x w
  · exact turn_7 x w
  · exact turn_11 x w
  · exact turn_13 x w
  · exact turn_17 x w
  · exact turn_18 x w
  · exact turn_19 x w
  · exact turn_22 x w
  · exact turn_25 x w
theorem turnzS (x : UInt32) (n : Int) (w : World) (hn : n = 2 ∨ n = 6 ∨ n = 7 ∨ n = 11 ∨ n = 13 ∨ n = 17 ∨ n = 18 ∨ n = 19 ∨ n = 22 ∨ n = 25) : Calls Tryz.prog 235 #[.int .u32 (wv x), .int .i64 n] w fun e w' => e = .returned (.int .u32 (wv (rotz x n))) ∧ w' = w := (turnz x n w hn).mono fun _ _ ⟨h, h2⟩ => ⟨h, h2.symm⟩
end Go.Proofs.YtpfmdhcmhcoddaaGreatDoor
