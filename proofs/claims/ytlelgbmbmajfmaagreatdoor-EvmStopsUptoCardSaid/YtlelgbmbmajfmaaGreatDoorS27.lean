/- What the walks take: EvmX, EvmR, RunA, SubA. -/
import Derived.Test.YtlelgbmbmajfmaaGreatDoorS15
import Derived.Test.YtlelgbmbmajfmaaGreatDoorS26
import Derived.Laws.Externs
namespace Go.Proofs.YtlelgbmbmajfmaaGreatDoor
open Go.RowKit Go.Shelf Go.Lib
attribute [local go_sem] Oper.semAt_some
theorem add64_law (x y c : Nat) (hc : c ≤ 1) (w : World) : (callFunc 72 #[.int .u64 x, .int .u64 y, .int .u64 c]).run Tryz.prog w = .ok (.value (.tuple #[.int .u64 (((x + y + c) % 18446744073709551616 : Nat) : Int), .int .u64 (((x + y + c) / 18446744073709551616 : Nat) : Int)])) w := by
  rw [run_callFunc_extern Tryz.func72 (by kernel_rfl) (by kernel_rfl) (by kernel_rfl) (e := add64Entry) (by kernel_rfl), run_add64 x y c (by omega) (by omega) (by omega) (by omega)]
  simp only [Result.andThen]
  congr 5 <;> omega
/-- what is carried into a limb -/
def carE (a b k : Nat) : Nat := (a % 256 ^ (8 * k) + b % 256 ^ (8 * k)) / 256 ^ (8 * k)
theorem carE_le (a b k : Nat) : carE a b k ≤ 1 := by
  unfold carE
  have hp : 0 < 256 ^ (8 * k) := Nat.pow_pos (by decide)
  have h1 := Nat.mod_lt a hp
  have h2 := Nat.mod_lt b hp
  have : (a % 256 ^ (8 * k) + b % 256 ^ (8 * k)) / 256 ^ (8 * k) < 2 := Nat.div_lt_of_lt_mul (by omega)
  omega
theorem add_step (a b k : Nat) : (limb a k + limb b k + carE a b k) % 18446744073709551616 = limb (a + b) k ∧ (limb a k + limb b k + carE a b k) / 18446744073709551616 = carE a b (k + 1) := by
  have hX : (18446744073709551616 : Nat) = 256 ^ 8 := by decide
  have hp : 0 < 256 ^ (8 * k) := Nat.pow_pos (by decide)
  unfold limb carE
  rw [show 8 * (k + 1) = 8 * k + 8 from by omega, Nat.pow_add, hX]
  obtain ⟨M, hM⟩ : ∃ M, 256 ^ (8 * k) = M := ⟨_, rfl⟩
  obtain ⟨X, hXX⟩ : ∃ X, (256 : Nat) ^ 8 = X := ⟨_, rfl⟩
  rw [hM] at hp ⊢
  rw [hXX]
  have hXp : 0 < X := by rw [← hXX]; decide
  rw [Nat.mod_mul, Nat.mod_mul]
  have e1 : (a % M + M * (a / M % X) + (b % M + M * (b / M % X))) / (M * X) = (a / M % X + b / M % X + (a % M + b % M) / M) / X := by
    rw [← Nat.div_div_eq_div_mul]
    congr 1
    rw [show a % M + M * (a / M % X) + (b % M + M * (b / M % X)) = (a % M + b % M) + M * (a / M % X + b / M % X) from by rw [Nat.mul_add]; omega, Nat.add_mul_div_left _ _ hp, Nat.add_comm]
  refine ⟨?_, e1.symm⟩
  have e2 : (a + b) / M = a / M + b / M + (a % M + b % M) / M := by
    have ha := Nat.mod_add_div a M
    have hb := Nat.mod_add_div b M
    have e3 : a + b = (a % M + b % M) + M * (a / M + b / M) := by rw [Nat.mul_add]; omega
    rw [e3, Nat.add_mul_div_left _ _ hp, Nat.add_comm]
  rw [e2]
  rw [Nat.add_mod (a / M + b / M), Nat.add_mod (a / M), Nat.add_mod (a / M % X + b / M % X), Nat.add_mod (a / M % X)]
/-- a sum's first limbs -/
def sumC (s k : Nat) : List Value := (List.range 4).map fun i => if i < k then .int .u64 (limb s i) else .int .u64 0
theorem sumC_set (s k : Nat) (hk : k < 4) : (sumC s k).set k (.int .u64 (limb s k)) = sumC s (k + 1) := by
  match k, hk with
  | 0, _ => rfl
  | 1, _ => rfl
  | 2, _ => rfl
  | 3, _ => rfl
theorem sumC_at (s k : Nat) (hk : k < 4) : ∃ u, (sumC s k)[k]? = some (.int .u64 u) := by
  match k, hk with
  | 0, _ => exact ⟨_, rfl⟩
  | 1, _ => exact ⟨_, rfl⟩
  | 2, _ => exact ⟨_, rfl⟩
  | 3, _ => exact ⟨_, rfl⟩
theorem W4.at {W : World} {g v : Nat} (h : W4 W g 0 v) {k : Nat} (hk : k < 4) : W.cell? ⟨g, k, none⟩ = some (.int .u64 (limb v k)) := by
  have h1 := h k (.int .u64 (limb v k)) (by match k, hk with | 0, _ => rfl | 1, _ => rfl | 2, _ => rfl | 3, _ => rfl)
  rwa [Nat.zero_add] at h1
theorem limb_wrap (s : Nat) {k : Nat} (hk : k < 4) : limb (s % 256 ^ 32) k = limb s k := by
  unfold limb
  have e : (256 : Nat) ^ 32 = 256 ^ (8 * k) * 256 ^ (32 - 8 * k) := by rw [← Nat.pow_add]; congr 1; omega
  rw [e, Nat.mod_mul_right_div_self]
  rw [Nat.mod_mod_of_dvd]
  exact Nat.pow_dvd_pow 256 (by omega)
set_option maxRecDepth 100000 in
set_option maxHeartbeats 6400000 in
theorem sum_any (a b : Nat) (w : World) : Calls Tryz.prog 49 #[.agg #[.int .u64 (limb a 0), .int .u64 (limb a 1), .int .u64 (limb a 2), .int .u64 (limb a 3)], .agg #[.int .u64 (limb b 0), .int .u64 (limb b 1), .int .u64 (limb b 2), .int .u64 (limb b 3)]] w fun e w' => e = .returned (.tuple #[.agg #[.int .u64 (limb (a + b) 0), .int .u64 (limb (a + b) 1), .int .u64 (limb (a + b) 2), .int .u64 (limb (a + b) 3)], .int .u64 (carE a b 4)]) ∧ Below w.heap.size w w' := by
  obtain ⟨s, hs⟩ : ∃ s, a + b = s := ⟨_, rfl⟩
  rw [hs]
  have HS := Lib.hid hs
  obtain ⟨W0, hW0⟩ : ∃ W, ((((w.alloc (.cells #[.int .u64 (limb a 0), .int .u64 (limb a 1), .int .u64 (limb a 2), .int .u64 (limb a 3)] 24)).alloc (.cells #[.int .u64 (limb b 0), .int .u64 (limb b 1), .int .u64 (limb b 2), .int .u64 (limb b 3)] 24)).alloc (.cells #[.int .u64 0, .int .u64 0, .int .u64 0, .int .u64 0] 24)).alloc (.cells #[.int .u64 0, .int .u64 0, .int .u64 0, .int .u64 0] 24)) = W := ⟨_, rfl⟩
  have za : W4 W0 w.heap.size 0 a := by rw [← hW0]; exact (((W4.new w a 24).after (laid1 _ _)).after (laid1 _ _)).after (laid1 _ _)
  have zb : W4 W0 (w.heap.size + 1) 0 b := by
    have h := W4.new (w.alloc (.cells #[.int .u64 (limb a 0), .int .u64 (limb a 1), .int .u64 (limb a 2), .int .u64 (limb a 3)] 24)) b 24
    rw [World.size_alloc] at h
    rw [← hW0]; exact (h.after (laid1 _ _)).after (laid1 _ _)
  have ho : HasCells W0 (w.heap.size + 3) (sumC s 0) 24 := by
    have h := HasCells.new (((w.alloc (.cells #[.int .u64 (limb a 0), .int .u64 (limb a 1), .int .u64 (limb a 2), .int .u64 (limb a 3)] 24)).alloc (.cells #[.int .u64 (limb b 0), .int .u64 (limb b 1), .int .u64 (limb b 2), .int .u64 (limb b 3)] 24)).alloc (.cells #[.int .u64 0, .int .u64 0, .int .u64 0, .int .u64 0] 24)) (sumC s 0) 24
    simp only [World.size_alloc] at h
    rw [← hW0]; exact h
  have hr : HasCells W0 (w.heap.size + 2) [.int .u64 0, .int .u64 0, .int .u64 0, .int .u64 0] 24 := by
    have h := (HasCells.new ((w.alloc (.cells #[.int .u64 (limb a 0), .int .u64 (limb a 1), .int .u64 (limb a 2), .int .u64 (limb a 3)] 24)).alloc (.cells #[.int .u64 (limb b 0), .int .u64 (limb b 1), .int .u64 (limb b 2), .int .u64 (limb b 3)] 24)) [.int .u64 0, .int .u64 0, .int .u64 0, .int .u64 0] 24).after (laid1 _ (.cells #[.int .u64 0, .int .u64 0, .int .u64 0, .int .u64 0] 24))
    simp only [World.size_alloc] at h
    rw [← hW0]; exact h
  have hb0 : Below w.heap.size w W0 := by rw [← hW0]; exact (laid2 w _ _).trans ((laid2 _ _ _).mono (by simp only [World.size_alloc]; omega))
  have HW0 := Lib.hid hW0
  have HZA := Lib.hid za
  have HZB := Lib.hid zb
  have HO := Lib.hid ho
  have HRR := Lib.hid hr
  have HB0 := Lib.hid hb0
  clear hW0 za zb ho hr hb0 hs
  go_enter Tryz.func49, Tryz.ntmps49
  go_wp2_with (rw [HW0.out])
  go_loopw [9, 7] (fun i cv wr => ∃ k : Nat, k ≤ 4 ∧ i = .int .i64 k ∧ cv = .int .u64 (carE a b k) ∧ Hid (HasCells wr (w.heap.size + 3) (sumC s k) 24) ∧ Hid (W4 wr w.heap.size 0 a) ∧ Hid (W4 wr (w.heap.size + 1) 0 b) ∧ Hid (HasCells wr (w.heap.size + 2) [.int .u64 0, .int .u64 0, .int .u64 0, .int .u64 0] 24) ∧ Hid (Below w.heap.size w wr)) (fun i cv wr => 4 - (RowKit.intOf i).toNat)
  case atStart => exact ⟨0, by omega, rfl, by unfold carE; simp [Nat.mod_one], HO, HZA, HZB, HRR, HB0⟩
  case round =>
    obtain ⟨k, hk, rfl, rfl, HOC, HA, HBB, HR2, HBL⟩ := hrel
    have q1 : (0 : Int) ≤ k := by omega
    obtain ⟨cc, hcc⟩ : ∃ c, carE a b k = c := ⟨_, rfl⟩
    by_cases hlt : k < 4
    · have q2 : (k : Int) < 4 := by omega
      have hst := add_step a b k
      have hadd := fun W => add64_law (limb a k) (limb b k) cc (by rw [← hcc]; exact carE_le a b k) W
      rw [hcc] at hst
      rw [hst.1, hst.2, HS.out] at hadd
      have HSF := Lib.hid (show wr.cell? ⟨w.heap.size, k, none⟩ = some (.int .u64 (limb a k)) ∧ wr.cell? ⟨w.heap.size + 1, k, none⟩ = some (.int .u64 (limb b k)) from ⟨HA.out.at hlt, HBB.out.at hlt⟩)
      obtain ⟨u, hu⟩ := sumC_at s k hlt
      have HY := Lib.hid (show wr.drew.cell? ⟨w.heap.size + 3, k, none⟩ = some (.int .u64 u) ∧ wr.drew.frozen? ⟨w.heap.size + 3, k, none⟩ = false from ⟨HOC.out.cell hu, HOC.out.frozen k⟩)
      have HCC := Lib.hid hcc
      have hot : ∀ q, q ≠ w.heap.size + 3 → ((wr.drew.setCell ⟨w.heap.size + 3, k, none⟩ (.int .u64 (limb s k))).heap[q]? = wr.heap[q]?) := fun q hq => Below.heap_setCell wr.drew ⟨w.heap.size + 3, k, none⟩ _ q hq
      have HA2 := Lib.hid (HA.out.kept (hot _ (by omega)))
      have HBB2 := Lib.hid (HBB.out.kept (hot _ (by omega)))
      have HR3 := Lib.hid (HR2.out.kept (hot _ (by omega)))
      have HS2 := Lib.hid (And.intro (HA2.out.at hlt) (HBB2.out.at hlt))
      have hoc2 := HOC.out.set k (.int .u64 (limb s k))
      rw [sumC_set s k hlt] at hoc2
      have HOC2 := Lib.hid hoc2
      have HBL2 := Lib.hid (show Below w.heap.size w (wr.drew.setCell ⟨w.heap.size + 3, k, none⟩ (.int .u64 (limb s k))) from HBL.out.drew.setCell (p := ⟨w.heap.size + 3, k, none⟩) (show w.heap.size ≤ w.heap.size + 3 by omega) _)
      clear hoc2 hot
      clear hst hu
      rw [hcc]
      go_wp2_with fail
      refine wp_region_held_drew (S := (fun W => W.cell? ⟨w.heap.size, k, none⟩ = some (.int .u64 (limb a k)) ∧ W.cell? ⟨w.heap.size + 1, k, none⟩ = some (.int .u64 (limb b k)))) (by kernel_rfl) (HSF.out) (fun hHeld => ?_)
      refine hT 0 ?_
      refine hT 1 ?_
      refine hT 2 ?_
      refine hD 3 ?_
      refine hT 4 ?_
      refine hT 5 ?_
      refine hD 6 ?_
      refine hT 7 ?_
      refine hT 8 ?_
      refine hT 9 ?_
      refine hT 10 ?_
      refine hT 11 ?_
      refine hT 12 ?_
      have y1 := HY.out.1
      have y2 := HY.out.2
      refine wpAnyH_ready (rs := [13]) (by kernel_rfl) (by simp) ?_
      refine AllReadyH.cons rfl (fun K hK => ?_) AllReadyH.nil
      go_simp
      refine hK.out _ _ (HS2.out) (fun hHeld => ?_)
      clear hK K
      try simp only [Act.put, zq]
      refine hT 14 ?_
      refine wpAnyH_done (by kernel_rfl) ?_ 0
      go_wp2
      go_roundw
      case rel => exact ⟨k + 1, by omega, by go_num, rfl, HOC2, HA2, HBB2, HR3, HBL2⟩
      case measure => simp [RowKit.intOf]; omega
    · have q2 : ¬ ((k : Int) < 4) := by omega
      obtain rfl : k = 4 := by omega
      have hocc : HasCells wr (w.heap.size + 3) [.int .u64 (limb s 0), .int .u64 (limb s 1), .int .u64 (limb s 2), .int .u64 (limb s 3)] 24 := HOC.out
      obtain ⟨z0, z1, z2, z3⟩ := (show W4 wr (w.heap.size + 3) 0 s from hocc.range).zero
      clear hocc
      go_wp2_with ((with_reducible refine store_gateK 24 ?_); refine wpList_store_mid rfl 24 _ _ rfl (w.heap.size + 2) 0 #[.int .u64 (limb s 0), .int .u64 (limb s 1), .int .u64 (limb s 2), .int .u64 (limb s 3)] rfl rfl (HR2.out.there 0 4 (by decide)) infoW (oneW s) ?_)
      refine bodyPost_ret (results_cells2 rfl _ _ (w.heap.size + 2) [.int .u64 (limb s 0), .int .u64 (limb s 1), .int .u64 (limb s 2), .int .u64 (limb s 3)] _ (by rfl) ((HR2.out.whole (vs := [.int .u64 (limb s 0), .int .u64 (limb s 1), .int .u64 (limb s 2), .int .u64 (limb s 3)]) rfl).range) Tryz.underlying24 rfl infoW) rfl ?_
      exact ⟨rfl, below_sets (by omega) _ _ _ HBL.out⟩
set_option maxRecDepth 100000 in
set_option maxHeartbeats 6400000 in
theorem add_any (a b : Nat) (w : World) : Calls Tryz.prog 18 #[.agg #[.int .u64 (limb a 0), .int .u64 (limb a 1), .int .u64 (limb a 2), .int .u64 (limb a 3)], .agg #[.int .u64 (limb b 0), .int .u64 (limb b 1), .int .u64 (limb b 2), .int .u64 (limb b 3)]] w fun e w' => e = .returned (.agg #[.int .u64 (limb (a + b) 0), .int .u64 (limb (a + b) 1), .int .u64 (limb (a + b) 2), .int .u64 (limb (a + b) 3)]) ∧ Below w.heap.size w w' := by
  obtain ⟨W0, hW0⟩ : ∃ W, (((w.alloc (.cells #[.int .u64 (limb a 0), .int .u64 (limb a 1), .int .u64 (limb a 2), .int .u64 (limb a 3)] 24)).alloc (.cells #[.int .u64 (limb b 0), .int .u64 (limb b 1), .int .u64 (limb b 2), .int .u64 (limb b 3)] 24)).alloc (.cells #[.int .u64 0, .int .u64 0, .int .u64 0, .int .u64 0] 24)) = W := ⟨_, rfl⟩
  have za : W4 W0 w.heap.size 0 a := by rw [← hW0]; exact ((W4.new w a 24).after (laid1 _ _)).after (laid1 _ _)
  have zb : W4 W0 (w.heap.size + 1) 0 b := by
    have h := W4.new (w.alloc (.cells #[.int .u64 (limb a 0), .int .u64 (limb a 1), .int .u64 (limb a 2), .int .u64 (limb a 3)] 24)) b 24
    rw [World.size_alloc] at h
    rw [← hW0]; exact h.after (laid1 _ _)
  have hr : HasCells W0 (w.heap.size + 2) [.int .u64 0, .int .u64 0, .int .u64 0, .int .u64 0] 24 := by
    have h := HasCells.new ((w.alloc (.cells #[.int .u64 (limb a 0), .int .u64 (limb a 1), .int .u64 (limb a 2), .int .u64 (limb a 3)] 24)).alloc (.cells #[.int .u64 (limb b 0), .int .u64 (limb b 1), .int .u64 (limb b 2), .int .u64 (limb b 3)] 24)) [.int .u64 0, .int .u64 0, .int .u64 0, .int .u64 0] 24
    simp only [World.size_alloc] at h
    rw [← hW0]; exact h
  have hb0 : Below w.heap.size w W0 := by rw [← hW0]; exact (laid2 w _ _).trans ((laid1 _ _).mono (by simp only [World.size_alloc]; omega))
  obtain ⟨a0, a1, a2, a3⟩ := za.zero
  obtain ⟨b0, b1, b2, b3⟩ := zb.zero
  have HW0 := Lib.hid hW0
  have HRR := Lib.hid hr
  have HB0 := Lib.hid hb0
  obtain ⟨s, hs⟩ : ∃ s, a + b = s := ⟨_, rfl⟩
  have HSU := Lib.hid (fun W => sum_any a b W)
  rw [hs] at HSU ⊢
  clear hW0 za zb hr hb0 hs
  go_enter Tryz.func18, Tryz.ntmps18
  go_wp2_with (rw [HW0.out])
  refine (HSU.out _).mono ?_
  rintro e w1 ⟨rfl, hb1⟩
  have HB1 := Lib.hid (HB0.out.trans (hb1.mono HB0.out.size))
  have HR1 := Lib.hid (HRR.out.after hb1)
  have hn1 := HasCells.new w1 [.int .u64 0, .int .u64 0, .int .u64 0, .int .u64 0] 24
  have HN1 := Lib.hid hn1
  have HS1 := Lib.hid HB1.out.size
  have HR2 := Lib.hid (HR1.out.after (laid1 w1 (.cells #[.int .u64 0, .int .u64 0, .int .u64 0, .int .u64 0] 24)))
  have hne : w.heap.size + 2 < w1.heap.size := by have := HRR.out.lt; have := hb1.size; omega
  clear a0 a1 a2 a3 b0 b1 b2 b3 hb1 hn1
  go_wp2_with (first | ((with_reducible refine store_gateK 24 ?_); refine wpList_store_mid rfl 24 _ _ rfl w1.heap.size 0 #[.int .u64 (limb s 0), .int .u64 (limb s 1), .int .u64 (limb s 2), .int .u64 (limb s 3)] rfl rfl (HN1.out.there 0 4 (by decide)) infoW (oneW s) ?_; (have z := (show W4 _ _ 0 s from (HN1.out.whole (vs := [.int .u64 (limb s 0), .int .u64 (limb s 1), .int .u64 (limb s 2), .int .u64 (limb s 3)]) rfl).range).zero; obtain ⟨z0, z1, z2, z3⟩ := z; clear HN1)) | ((with_reducible refine store_gateK 24 ?_); refine wpList_store_mid rfl 24 _ _ rfl (w.heap.size + 2) 0 #[.int .u64 (limb s 0), .int .u64 (limb s 1), .int .u64 (limb s 2), .int .u64 (limb s 3)] rfl rfl ((HR2.out.kept (setCells_other (by omega) _ _ _)).there 0 4 (by decide)) infoW (oneW s) ?_))
  have hfin := (HR2.out.kept (setCells_other (show w.heap.size + 2 ≠ w1.heap.size by omega) [.int .u64 (limb s 0), .int .u64 (limb s 1), .int .u64 (limb s 2), .int .u64 (limb s 3)] 0 _)).whole (vs := [.int .u64 (limb s 0), .int .u64 (limb s 1), .int .u64 (limb s 2), .int .u64 (limb s 3)]) rfl
  refine bodyPost_ret (results_cells rfl _ _ (w.heap.size + 2) [.int .u64 (limb s 0), .int .u64 (limb s 1), .int .u64 (limb s 2), .int .u64 (limb s 3)] _ (by rfl) hfin.range Tryz.underlying24 rfl infoW) rfl ?_
  exact ⟨rfl, below_sets (by omega) _ _ _ (below_sets (by have := HS1.out; omega) _ _ _ (HB1.out.trans ((laid1 w1 _).mono HB1.out.size)))⟩
end Go.Proofs.YtlelgbmbmajfmaaGreatDoor

namespace Go.Proofs.YtlelgbmbmajfmaaGreatDoor
open Go.RowKit Go.Shelf Go.Lib
attribute [local go_sem] Oper.semAt_some
theorem neq_func (fn : FuncId) (W : World) : (binOp .neq 34 (.func (.func fn) #[] #[]) .nilFunc).run Tryz.prog W = .ok (.bool true) W := by
  have h : (Op.equalIn (9999 + 1) 34 (.func (.func fn) #[] #[]) .nilFunc).run Tryz.prog W = .ok false W := by
    unfold Op.equalIn
    simp only [Sem.run_bind, run_underlying Tryz.underlying34, Result.andThen]
    rfl
  simp only [binOp, Op.equal]
  show ((do let b ← Op.equalIn (9999 + 1) 34 (.func (.func fn) #[] #[]) .nilFunc; pure (.bool !b)) : Sem Value).run Tryz.prog W = _
  simp only [Sem.run_bind, h, Result.andThen]
  rfl
theorem operator_add (w : World) : Calls Tryz.prog 128 #[.int .u8 1] w fun e w' => e = .returned (.func (.func 18) #[] #[]) ∧ w' = w := by
  go_enter Tryz.func128, Tryz.ntmps128
  go_wp2_with fail
  go_ret
  exact ⟨rfl, rfl⟩
set_option maxRecDepth 100000 in
set_option maxHeartbeats 6400000 in
theorem reckon_add (p : Nat) (f : FrE) (r : Nat) (w : World) (h : Fra p w f) (hml : 2 ≤ f.stkL.length) (h63 : f.stkL.length ≤ 1099511627776) (HG : ∀ W, Calls Tryz.prog 18 #[.agg #[.int .u64 (limb (topT f 0) 0), .int .u64 (limb (topT f 0) 1), .int .u64 (limb (topT f 0) 2), .int .u64 (limb (topT f 0) 3)], .agg #[.int .u64 (limb (topT f 1) 0), .int .u64 (limb (topT f 1) 1), .int .u64 (limb (topT f 1) 2), .int .u64 (limb (topT f 1) 3)]] W fun e w' => e = .returned (.agg #[.int .u64 (limb r 0), .int .u64 (limb r 1), .int .u64 (limb r 2), .int .u64 (limb r 3)]) ∧ Below W.heap.size W w') :
    Calls Tryz.prog 102 #[.pointer (some ⟨p, 0, none⟩), .int .u8 1] w fun e w' => (∃ v, e = .returned v) ∧ ∃ v, Upf p w f w' (pushF (popF f 2) v r) ∧ Fra p w' (pushF (popF f 2) v r) := by
  have HF := Lib.hid h
  have hlt := h.lt
  have HGG := Lib.hid HG
  have HPU := Lib.hid (fun W (hF : Fra p W (popF f 2)) => push_any p (popF f 2) r W hF (by unfold popF; simp only [List.length_take]; omega))
  unfold wordV at HPU
  have hnf := neq_func 18
  clear h HG
  go_enter Tryz.func102, Tryz.ntmps102
  go_wp2_with fail
  refine (operator_add _).mono ?_
  rintro e w0 ⟨rfl, rfl⟩
  go_wp2_with fail
  refine (take_any p f 2 _ HF.out (by decide) hml h63).mono ?_
  rintro e w1 ⟨rfl, hb1, hf1⟩
  have HB1 := Lib.hid (hb1)
  have HF1 := Lib.hid hf1
  have HZ1 := Lib.hid (HasCells.new w1 [.int .u64 0, .int .u64 0, .int .u64 0, .int .u64 0, .int .u64 0, .int .u64 0, .int .u64 0, .int .u64 0, .int .u64 0, .int .u64 0, .int .u64 0, .int .u64 0, .int .u64 0, .int .u64 0, .int .u64 0, .int .u64 0, .int .u64 0, .int .u64 0, .int .u64 0, .int .u64 0, .int .u64 0, .int .u64 0, .int .u64 0, .int .u64 0, .int .u64 0, .int .u64 0, .int .u64 0, .int .u64 0] 199)
  clear hb1 hf1
  go_wp2_with ((with_reducible refine store_gateK 199 ?_); refine wpList_store_mid rfl 199 _ _ rfl w1.heap.size 0 (sevC f 2).toArray rfl rfl (HZ1.out.there 0 _ (by simp [sevC_length])) (by rw [List.size_toArray, sevC_length]; exact infoSeven) (sevC_one f 2) ?_; (obtain ⟨w2, hw2, hz2, hf2, hb2, hq2⟩ := taken_store HF1.out (sevC f 2) (by rw [sevC_length])); rw [hw2]; have HT2 := Lib.hid hz2; have HF2 := Lib.hid hf2; have HB2 := Lib.hid (HB1.out.trans hb2); have HQ2 := Lib.hid hq2; clear hw2 hz2 hf2 hb2 hq2; obtain ⟨a0, a1, a2, a3⟩ := sev_0 HT2.out (by decide) (by decide); obtain ⟨b0, b1, b2, b3⟩ := sev_1 HT2.out (by decide) (by decide))
  refine (HGG.out _).mono ?_
  rintro e w3 ⟨rfl, hb3⟩
  have HB3 := Lib.hid (HB2.out.trans ((Upf.refl p w2 (popF f 2)).next (by have := HQ2.out; omega) hb3))
  have HF3 := Lib.hid (HF2.out.after hb3)
  clear hb3 a0 a1 a2 a3 b0 b1 b2 b3
  go_wp2_with fail
  refine (HPU.out _ HF3.out).mono ?_
  rintro e w4 ⟨⟨v4, rfl⟩, v5, hu4, hf4⟩
  have HU4 := Lib.hid (HB3.out.trans hu4)
  have HF4 := Lib.hid hf4
  clear hu4 hf4
  go_wp2
  first | go_end0 | (refine bodyPost_ret (results_none rfl _ _ _) rfl ?_)
  exact ⟨⟨_, rfl⟩, v5, HU4.out, HF4.out⟩
theorem sevW0 {W : World} {q : Nat} {f : FrE} {k : Nat} (h : HasCells W q (sevC f k) 199) (hi : 0 < k) (hk : k ≤ 7) : W4 W q 0 (topT f 0) := by
  have h1 := sev_word h hi hk
  rwa [Nat.zero_mul] at h1
theorem sevW1 {W : World} {q : Nat} {f : FrE} {k : Nat} (h : HasCells W q (sevC f k) 199) (hi : 1 < k) (hk : k ≤ 7) : W4 W q 4 (topT f 1) := sev_word h hi hk
/-- what mstore leaves -/
def mstoreF (f : FrE) : FrE :=
  if (needF (popF f 2) (topT f 0) 32 0 1).2 then memF (needF (popF f 2) (topT f 0) 32 0 1).1 (putE (needF (popF f 2) (topT f 0) 32 0 1).1.mem (topT f 0) (be 32 (topT f 1))) else (needF (popF f 2) (topT f 0) 32 0 1).1
theorem needF_room {f : FrE} {off n each unit : Nat} (h0 : n ≠ 0) (h : (needF f off n each unit).2 = true) : off + n ≤ (needF f off n each unit).1.mem.length ∧ off ≤ 65536 := by
  unfold needF at h ⊢
  cases hr : needE f.mem off n with
  | none => rw [hr] at h; cases h
  | some rc =>
    obtain ⟨m, c⟩ := rc
    rw [hr] at h
    dsimp only at h ⊢
    by_cases hp : c + each * ((n + unit - 1) / unit) ≤ f.gas
    · rw [if_pos hp]
      show off + n ≤ m.length ∧ off ≤ 65536
      unfold needE at hr
      rw [if_neg h0] at hr
      by_cases h1 : off ≤ 65536 ∧ n ≤ 65536 ∧ off + n ≤ 65536
      · rw [if_pos h1] at hr
        have he : off + n ≤ endM off n := by unfold endM; omega
        split at hr
        · cases hr; omega
        · cases hr
          rw [List.length_append, List.length_replicate]
          omega
      · rw [if_neg h1] at hr; cases hr
    · rw [if_neg hp] at h; cases h
set_option maxRecDepth 100000 in
set_option maxHeartbeats 6400000 in
theorem mstore_any (p : Nat) (f : FrE) (w : World) (h : Fra p w f) (hml : 2 ≤ f.stkL.length) (h63 : f.stkL.length ≤ 1099511627776) (hg : f.gas < 18446744073709551616) (hm : f.mem.length ≤ 131072) (hw : ∀ v ∈ f.stkL, v < 256 ^ 32) :
    Calls Tryz.prog 104 #[.pointer (some ⟨p, 0, none⟩), .int .u8 82] w fun e w' => (∃ v, e = .returned v) ∧ Upf p w f w' (mstoreF f) ∧ Fra p w' (mstoreF f) := by
  have HF := Lib.hid h
  have hlt := h.lt
  have ht0 : topT f 0 < 256 ^ 32 := topT_lt hw 0
  have HND := Lib.hid (fun W (hF : Fra p W (popF f 2)) => needF_any p (popF f 2) (topT f 0) 32 0 1 W hF hg hm ht0 (by rw [p32]; omega) (by decide) (by decide) (by decide))
  have hmm := needF_mem (off := topT f 0) (n := 32) (each := 0) (unit := 1) (f := popF f 2) hm
  have hrm := needF_room (off := topT f 0) (n := 32) (each := 0) (unit := 1) (f := popF f 2) (by decide)
  unfold mstoreF
  obtain ⟨⟨N, b⟩, hN⟩ : ∃ N, needF (popF f 2) (topT f 0) 32 0 1 = N := ⟨_, rfl⟩
  rw [hN] at HND hmm hrm ⊢
  dsimp only at HND hmm hrm ⊢
  have h32 : limb 32 0 = 32 ∧ limb 32 1 = 0 ∧ limb 32 2 = 0 ∧ limb 32 3 = 0 := by decide
  rw [h32.1, h32.2.1, h32.2.2.1, h32.2.2.2] at HND
  clear h hN hm hw h32
  go_enter Tryz.func104, Tryz.ntmps104
  go_wp2_with fail
  refine (take_any p f 2 _ HF.out (by decide) hml h63).mono ?_
  rintro e w1 ⟨rfl, hb1, hf1⟩
  have HB1 := Lib.hid (hb1)
  have HF1 := Lib.hid hf1
  have HZ1 := Lib.hid (HasCells.new w1 [.int .u64 0, .int .u64 0, .int .u64 0, .int .u64 0, .int .u64 0, .int .u64 0, .int .u64 0, .int .u64 0, .int .u64 0, .int .u64 0, .int .u64 0, .int .u64 0, .int .u64 0, .int .u64 0, .int .u64 0, .int .u64 0, .int .u64 0, .int .u64 0, .int .u64 0, .int .u64 0, .int .u64 0, .int .u64 0, .int .u64 0, .int .u64 0, .int .u64 0, .int .u64 0, .int .u64 0, .int .u64 0] 199)
  clear hb1 hf1
  go_wp2_with ((with_reducible refine store_gateK 199 ?_); refine wpList_store_mid rfl 199 _ _ rfl w1.heap.size 0 (sevC f 2).toArray rfl rfl (HZ1.out.there 0 _ (by simp [sevC_length])) (by rw [List.size_toArray, sevC_length]; exact infoSeven) (sevC_one f 2) ?_; (obtain ⟨w2, hw2, hz2, hf2, hb2, hq2⟩ := taken_store HF1.out (sevC f 2) (by rw [sevC_length])); rw [hw2]; have HT2 := Lib.hid hz2; have HF2 := Lib.hid hf2; have HB2 := Lib.hid (HB1.out.trans hb2); have HQ2 := Lib.hid hq2; clear hw2 hz2 hf2 hb2 hq2; obtain ⟨a0, a1, a2, a3⟩ := sev_0 HT2.out (by decide) (by decide); obtain ⟨b0, b1, b2, b3⟩ := sev_1 HT2.out (by decide) (by decide))
  refine wp_region_held_drew (S := (fun W => W4 W w1.heap.size 0 (topT f 0))) (by kernel_rfl) (sevW0 HT2.out (by decide) (by decide)) (fun hHeld => ?_)
  refine hT 0 ?_
  refine hT 1 ?_
  refine hU 2 ?_ (hy := fun w0 hSw => run_loadW rfl rfl hSw)
  refine wpAnyH_ready (rs := [3]) (by kernel_rfl) (by simp) ?_
  refine AllReadyH.cons rfl (fun K hK => ?_) AllReadyH.nil
  go_simp
  go_at_call 45
  refine (of_any 32 _).mono ?_
  rintro e w3 ⟨rfl, hb3⟩
  have HB3 := Lib.hid (HB2.out.trans ((Upf.refl p w2 (popF f 2)).next (by have := HQ2.out; omega) ((Below.refl _ w2).drew.trans hb3)))
  have HF3 := Lib.hid (HF2.out.after ((Below.refl _ w2).drew.trans hb3))
  have HT3 := Lib.hid (HT2.out.after ((Below.refl _ w2).drew.trans hb3))
  have HQ3 := Lib.hid (show w1.heap.size < w3.heap.size from Nat.lt_of_lt_of_le HQ2.out.1 hb3.size)
  clear hb3 a0 a1 a2 a3 b0 b1 b2 b3
  refine hK.out _ _ (sevW0 HT3.out (by decide) (by decide)) (fun hHeld => ?_)
  clear hK K
  try simp only [Act.put, zq]
  refine wpAnyH_ready (rs := [4]) (by kernel_rfl) (by simp) ?_
  refine AllReadyH.cons rfl (fun K hK => ?_) AllReadyH.nil
  go_simp
  go_at_call 133
  refine (HND.out _ HF3.out).mono ?_
  rintro e w4 ⟨rfl, hu4, hf4⟩
  have HU4 := Lib.hid (HB3.out.trans hu4)
  have HF4 := Lib.hid hf4
  have HT4 := Lib.hid (HT3.out.kept (hu4.block _ HQ3.out (by have := HQ2.out.2.1; omega) (fun e => by have := HQ2.out.2.2 _ e; omega)))
  clear hu4 hf4
  refine hK.out _ _ (sevW0 HT4.out (by decide) (by decide)) (fun hHeld => ?_)
  clear hK K
  try simp only [Act.put, zq]
  refine wpAnyH_done (by kernel_rfl) ?_ 0
  cases b with
  | false =>
    clear hrm
    go_wp2
    go_end0
    exact ⟨⟨_, rfl⟩, HU4.out, HF4.out⟩
  | true =>
    obtain ⟨hr1, hr2⟩ := hrm rfl
    have hl0 : limb (topT f 0) 0 = topT f 0 := limb_low (by omega)
    have HST := Lib.hid (fun W => store_any N.mem (topT f 0) (topT f 1) W (by omega) hr1)
    have HL0 := Lib.hid hl0
    have HSF := Lib.hid (And.intro (HF4.out.at 18 rfl) (And.intro (show w4.cell? ⟨w1.heap.size, 0, none⟩ = some (.int .u64 (topT f 0)) from by rw [← HL0.out]; exact (sev_0 HT4.out (by decide) (by decide)).1) (sevW1 HT4.out (by decide) (by decide))))
    clear hl0 hr1 hr2 hmm ht0
    go_wp2_with fail
    refine wp_region_L (fun Ls w' => Ls.getD 16 true = false → w'.cell? ⟨p, 18, none⟩ = some (.string ⟨N.mem.toArray⟩) ∧ w'.cell? ⟨w1.heap.size, 0, none⟩ = some (.int .u64 (topT f 0)) ∧ W4 w' w1.heap.size 4 (topT f 1)) (by kernel_rfl) ?_
    refine lT 0 16 HSF.out ?_
    refine lT 1 15 HSF.out ?_
    refine lT 2 14 HSF.out ?_
    refine lT 3 13 HSF.out ?_
    refine lD 4 12 HSF.out ?_
    refine lT 5 11 HSF.out ?_
    refine lT 6 10 HSF.out ?_
    refine lD 7 9 HSF.out ?_
    refine lT 8 8 HSF.out ?_
    refine lU 9 7 HSF.out ?_ (hy := fun w0 hSw => run_loadW rfl rfl hSw.2.2)
    refine wpAnyL_one (i := 10) (fuel := 6) (by kernel_rfl) rfl (fun K hK => ?_)
    go_simp
    go_at_call 138
    refine (HST.out _).mono ?_
    rintro e w5 ⟨rfl, hb5⟩
    have hb5 := (Below.refl w4.heap.size w4).drew.trans hb5
    have HU5 := Lib.hid (HU4.out.next (Nat.le_of_lt hlt) (hb5.mono (by have := HU4.out.below.size; omega)))
    have HF5 := Lib.hid (HF4.out.after hb5)
    have HT5 := Lib.hid (HT4.out.after hb5)
    clear hb5
    refine hK.out _ _ (fun h => ⟨HF5.out.at 18 rfl, (by rw [← HL0.out]; exact (sev_0 HT5.out (by decide) (by decide)).1), sevW1 HT5.out (by decide) (by decide)⟩) (fun _ => ?_)
    clear hK K
    try simp only [Act.put, zq]
    refine lT 11 5 ⟨HF5.out.at 18 rfl, (by rw [← HL0.out]; exact (sev_0 HT5.out (by decide) (by decide)).1), sevW1 HT5.out (by decide) (by decide)⟩ ?_
    refine lT 12 4 ⟨HF5.out.at 18 rfl, (by rw [← HL0.out]; exact (sev_0 HT5.out (by decide) (by decide)).1), sevW1 HT5.out (by decide) (by decide)⟩ ?_
    refine lT 13 3 ⟨HF5.out.at 18 rfl, (by rw [← HL0.out]; exact (sev_0 HT5.out (by decide) (by decide)).1), sevW1 HT5.out (by decide) (by decide)⟩ ?_
    refine lT 14 2 ⟨HF5.out.at 18 rfl, (by rw [← HL0.out]; exact (sev_0 HT5.out (by decide) (by decide)).1), sevW1 HT5.out (by decide) (by decide)⟩ ?_
    refine lT 15 1 ⟨HF5.out.at 18 rfl, (by rw [← HL0.out]; exact (sev_0 HT5.out (by decide) (by decide)).1), sevW1 HT5.out (by decide) (by decide)⟩ ?_
    have y2 := HF5.out.ice 18
    have y1 := HF5.out.at 18 rfl
    refine wpAnyL_one (i := 16) (fuel := 0) (by kernel_rfl) rfl (fun K hK => ?_)
    go_simp
    refine hK.out _ _ (fun h => (by cases h)) (fun _ => ?_)
    clear hK K
    try simp only [Act.put, zq]
    refine wpAnyL_done (by kernel_rfl) ?_ 0
    go_wp2
    go_end0
    exact ⟨⟨_, rfl⟩, HU5.out.set 18 _ rfl, HF5.out.set 18 _ rfl rfl rfl⟩
end Go.Proofs.YtlelgbmbmajfmaaGreatDoor

namespace Go.Proofs.YtlelgbmbmajfmaaGreatDoor
open Go.RowKit Go.Shelf Go.Lib
attribute [local go_sem] Oper.semAt_some
/-- a frame, but for the stack's place -/
def nf (f : FrE) : FrE := { f with stk := undef }
/-- a run of at most n steps comes to an end of which R holds -/
def RunTo (p : Nat) (R : World → FrE → Prop) : Nat → World → FrE → Prop
  | 0, _, _ => False
  | n + 1, w, _ => Calls Tryz.prog 80 #[.pointer (some ⟨p, 0, none⟩)] w fun e w' => (∃ v, e = .returned v) ∧ ∃ f', Fra p w' f' ∧ ((f'.ended = true ∧ R w' f') ∨ (f'.ended = false ∧ RunTo p R n w' f'))
/-- a step from w leads to a frame like g -/
def StepTo (p : Nat) (w : World) (g : FrE) : Prop := Calls Tryz.prog 80 #[.pointer (some ⟨p, 0, none⟩)] w fun e w' => (∃ v, e = .returned v) ∧ ∃ f', nf f' = g ∧ Below p w w' ∧ Fra p w' f'
theorem RunTo.next {p : Nat} {R : World → FrE → Prop} {n : Nat} {w : World} {f g : FrE} (h : StepTo p w g) (he : g.ended = false) (hn : ∀ w' f', nf f' = g → Below p w w' → Fra p w' f' → RunTo p R n w' f') : RunTo p R (n + 1) w f := by
  refine h.mono ?_
  rintro e w' ⟨hv, f', h1, h2, h3⟩
  exact ⟨hv, f', h3, .inr ⟨by rw [← h1] at he; exact he, hn w' f' h1 h2 h3⟩⟩
theorem RunTo.last {p : Nat} {R : World → FrE → Prop} {n : Nat} {w : World} {f g : FrE} (h : StepTo p w g) (he : g.ended = true) (hn : ∀ w' f', nf f' = g → Below p w w' → Fra p w' f' → R w' f') : RunTo p R (n + 1) w f := by
  refine h.mono ?_
  rintro e w' ⟨hv, f', h1, h2, h3⟩
  exact ⟨hv, f', h3, .inl ⟨by rw [← h1] at he; exact he, hn w' f' h1 h2 h3⟩⟩
def flowC (op : UInt8) : Bool := decide (Lib.indexByte [49, 59, 63] op < 0) && decide (op.toNat ≠ 71) && decide (¬ (0 < op.toNat ∧ op.toNat ≤ 32)) && decide (Lib.indexByte [48, 50, 51, 52, 54, 56, 61, 67, 88, 89, 90] op < 0) && decide (Lib.indexByte [53, 55, 57, 62, 81, 82, 83, 94] op < 0) && decide (Lib.indexByte [84, 85, 92, 93] op < 0)
theorem flowC_all {op : UInt8} (h : flowC op = true) : Lib.indexByte [49, 59, 63] op < 0 ∧ op.toNat ≠ 71 ∧ (¬ (0 < op.toNat ∧ op.toNat ≤ 32)) ∧ Lib.indexByte [48, 50, 51, 52, 54, 56, 61, 67, 88, 89, 90] op < 0 ∧ Lib.indexByte [53, 55, 57, 62, 81, 82, 83, 94] op < 0 ∧ Lib.indexByte [84, 85, 92, 93] op < 0 := by
  unfold flowC at h
  simp only [Bool.and_eq_true, decide_eq_true_eq] at h
  obtain ⟨⟨⟨⟨⟨a, b⟩, c⟩, d⟩, e⟩, f⟩ := h
  exact ⟨a, b, c, d, e, f⟩
/-- the frame behind what a step pays -/
def payN (g : FrE) (c : Nat) : FrE := nextF (payE g c) (nextE g.code g.pc)
/-- what a step asks of the frame -/
structure Can (g : FrE) (op : UInt8) (tk pt c : Nat) : Prop where
  at_ : opE g.code g.pc = op
  info : infoE op = (tk, pt, c, true)
  has : tk ≤ g.stkL.length
  room : g.stkL.length - tk + pt ≤ 1024
  gas : c ≤ g.gas
  small : g.gas < 18446744073709551616
  code : g.code.length ≤ 1099511627776
  pc : g.pc ≤ 1099511627776
theorem dataE_len (c : List UInt8) (pc : Nat) : (dataE c pc).length ≤ 1099511627776 := by
  have h : (opE c pc).toNat < 256 := (opE c pc).toNat_lt
  unfold dataE
  split
  · rw [List.length_append, List.length_replicate, List.length_take]
    omega
  · exact Nat.zero_le _
theorem room_le {g : FrE} {op : UInt8} {tk pt c : Nat} (h : Can g op tk pt c) (ht : tk ≤ 100) : g.stkL.length ≤ 1099511627776 := by have := h.room; omega
def pushN (g : FrE) (c : Nat) : FrE := pcF (pushF (payN g c) undef (wordOf (dataE g.code g.pc)))
theorem go_push (p : Nat) (f g : FrE) (w : World) (h : Fra p w f) (hg : nf f = g) (op : UInt8) (c : Nat) (hc : Can g op 0 1 c) (hf : flowC op = true) (h1 : 0x5f ≤ op.toNat) (h2 : op.toNat ≤ 0x7f) : StepTo p w (pushN g c) := by
  subst hg
  have h63 : (nf f).stkL.length ≤ 1099511627776 := room_le hc (by decide)
  obtain ⟨a1, a2, a3, a4, a5, a6⟩ := flowC_all hf
  refine (step_flow p f (fun W f2 w1 => (∃ v, f2 = pushF (payN f c) v (wordOf (dataE f.code f.pc))) ∧ Upf p W (payN f c) w1 f2) op 0 1 c w h hc.at_ hc.info hc.has hc.room hc.gas hc.small hc.code hc.pc a1 a2 a3 a4 a5 a6 (fun W _ hF => (flow_push p _ (dataE f.code f.pc) W hF h63 op h1 h2 (dataE_len _ _)).mono fun e w' h => ?_)).mono fun e w' h => ?_
  · obtain ⟨hv, v, h1, h2⟩ := h
    exact ⟨hv, _, ⟨⟨v, rfl⟩, h1⟩, h2⟩
  · obtain ⟨hv, hs⟩ := h
    obtain ⟨f2, ⟨v, rfl⟩, h1, h2⟩ := hs.up
    exact ⟨hv, _, rfl, h1.below, h2⟩
/-- a step that takes no words and does X, of a frame but for its stack's place -/
def addN (g : FrE) (c : Nat) : FrE := nf (pcF (pushF (popF (payN g c) 2) undef ((topT g 0 + topT g 1) % 256 ^ 32)))
theorem go_add (p : Nat) (f g : FrE) (w : World) (h : Fra p w f) (hg : nf f = g) (c : Nat) (hc : Can g 1 2 1 c) : StepTo p w (addN g c) := by
  subst hg
  have h63 : (nf f).stkL.length ≤ 1099511627776 := room_le hc (by decide)
  refine (step_reckon p f (fun W f2 w1 => (∃ v, f2 = pushF (popF (payN f c) 2) v ((topT f 0 + topT f 1) % 256 ^ 32)) ∧ Upf p W (payN f c) w1 f2) 1 2 1 c w h hc.at_ hc.info hc.has hc.room hc.gas hc.small hc.code hc.pc (by decide) (by decide) (by decide) (fun W _ hF => (reckon_add p _ ((topT f 0 + topT f 1) % 256 ^ 32) W hF hc.has h63 (fun W' => ?_)).mono fun e w' h => ?_)).mono fun e w' h => ?_
  · have h := add_any (topT f 0) (topT f 1) W'
    have e : ∀ k, k < 4 → limb ((topT f 0 + topT f 1) % 256 ^ 32) k = limb (topT f 0 + topT f 1) k := fun k hk => limb_wrap _ hk
    rw [e 0 (by decide), e 1 (by decide), e 2 (by decide), e 3 (by decide)]
    exact h
  · obtain ⟨hv, v, h1, h2⟩ := h
    exact ⟨hv, _, ⟨⟨v, rfl⟩, h1⟩, h2⟩
  · obtain ⟨hv, hs⟩ := h
    obtain ⟨f2, ⟨v, rfl⟩, h1, h2⟩ := hs.up
    exact ⟨hv, pcF (pushF (popF (payN f c) 2) v ((topT f 0 + topT f 1) % 256 ^ 32)), rfl, h1.below, h2⟩
def mstoreN (g : FrE) (c : Nat) : FrE := nf (pcF (mstoreF (payN g c)))
theorem nf_pc (f : FrE) : nf (pcF (nf f)) = nf (pcF f) := rfl
theorem nf_putm (A : FrE) (o : Nat) (s : List UInt8) : nf (memF A (putE A.mem o s)) = nf (memF (nf A) (putE (nf A).mem o s)) := rfl
theorem nf_endc (A : FrE) (h o n : Nat) : nf (endE A h (cutE A o n)) = nf (endE (nf A) h (cutE (nf A) o n)) := rfl
theorem nf_mstore (f : FrE) : nf (pcF (mstoreF f)) = nf (pcF (mstoreF (nf f))) := by
  have key : ((needF (popF f 2) (topT f 0) 32 0 1).1.ended = (needF (popF (nf f) 2) (topT (nf f) 0) 32 0 1).1.ended ∧ nf (needF (popF f 2) (topT f 0) 32 0 1).1 = nf (needF (popF (nf f) 2) (topT (nf f) 0) 32 0 1).1) ∧ (needF (popF f 2) (topT f 0) 32 0 1).2 = (needF (popF (nf f) 2) (topT (nf f) 0) 32 0 1).2 := by
    unfold needF
    cases hr : needE f.mem (topT f 0) 32 with
    | none =>
      have e1 : needE (popF f 2).mem (topT f 0) 32 = none := hr
      have e2 : needE (popF (nf f) 2).mem (topT (nf f) 0) 32 = none := hr
      rw [e1, e2]
      exact ⟨⟨rfl, rfl⟩, rfl⟩
    | some r =>
      obtain ⟨m, c⟩ := r
      have e1 : needE (popF f 2).mem (topT f 0) 32 = some (m, c) := hr
      have e2 : needE (popF (nf f) 2).mem (topT (nf f) 0) 32 = some (m, c) := hr
      rw [e1, e2]
      dsimp only
      by_cases hp : c + 0 * ((32 + 1 - 1) / 1) ≤ f.gas
      · have p1 : c + 0 * ((32 + 1 - 1) / 1) ≤ (popF f 2).gas := hp
        have p2 : c + 0 * ((32 + 1 - 1) / 1) ≤ (popF (nf f) 2).gas := hp
        rw [if_pos p1, if_pos p2]
        exact ⟨⟨rfl, rfl⟩, rfl⟩
      · have p1 : ¬ c + 0 * ((32 + 1 - 1) / 1) ≤ (popF f 2).gas := hp
        have p2 : ¬ c + 0 * ((32 + 1 - 1) / 1) ≤ (popF (nf f) 2).gas := hp
        rw [if_neg p1, if_neg p2]
        exact ⟨⟨rfl, rfl⟩, rfl⟩
  obtain ⟨⟨_, k1⟩, k2⟩ := key
  unfold mstoreF
  rw [k2]
  obtain ⟨A, hA⟩ : ∃ A, needF (popF f 2) (topT f 0) 32 0 1 = A := ⟨_, rfl⟩
  obtain ⟨B, hB⟩ : ∃ B, needF (popF (nf f) 2) (topT (nf f) 0) 32 0 1 = B := ⟨_, rfl⟩
  rw [hA, hB] at k1
  rw [hA, hB]
  obtain ⟨A1, A2⟩ := A
  obtain ⟨B1, B2⟩ := B
  dsimp only at k1 ⊢
  cases B2
  · show nf (pcF A1) = nf (pcF B1)
    rw [← nf_pc A1, ← nf_pc B1, k1]
  · show nf (pcF (memF A1 (putE A1.mem (topT f 0) (be 32 (topT f 1))))) = nf (pcF (memF B1 (putE B1.mem (topT (nf f) 0) (be 32 (topT (nf f) 1)))))
    rw [← nf_pc (memF A1 (putE A1.mem (topT f 0) (be 32 (topT f 1)))), ← nf_pc (memF B1 (putE B1.mem (topT (nf f) 0) (be 32 (topT (nf f) 1)))), nf_putm A1, nf_putm B1, k1]
    rfl
theorem go_mstore (p : Nat) (f g : FrE) (w : World) (h : Fra p w f) (hg : nf f = g) (c : Nat) (hc : Can g 82 2 0 c) (hm : g.mem.length ≤ 131072) (hw : ∀ v ∈ g.stkL, v < 256 ^ 32) : StepTo p w (mstoreN g c) := by
  subst hg
  have h63 : (nf f).stkL.length ≤ 1099511627776 := room_le hc (by decide)
  refine (step_memory p f (fun W f2 w1 => f2 = mstoreF (payN f c) ∧ Upf p W (payN f c) w1 f2) 82 2 0 c w h hc.at_ hc.info hc.has hc.room hc.gas hc.small hc.code hc.pc (by decide) (by decide) (by decide) (by decide) (by decide) (fun W _ hF => (mstore_any p _ W hF hc.has h63 (by have := hc.small; show f.gas - c < _; exact Nat.lt_of_le_of_lt (Nat.sub_le _ _) this) hm hw).mono fun e w' h => ?_)).mono fun e w' h => ?_
  · obtain ⟨hv, h1, h2⟩ := h
    exact ⟨hv, _, ⟨rfl, h1⟩, h2⟩
  · obtain ⟨hv, hs⟩ := h
    obtain ⟨f2, rfl, h1, h2⟩ := hs.up
    exact ⟨hv, _, nf_mstore _, h1.below, h2⟩
def giveN (g : FrE) (c : Nat) : FrE := nf (pcF (giveF (payN g c) 0))
theorem nf_give (f : FrE) : nf (pcF (giveF f 0)) = nf (pcF (giveF (nf f) 0)) := by
  have key : ((needF (popF f 2) (topT f 0) (topT f 1) 0 1).1.ended = (needF (popF (nf f) 2) (topT (nf f) 0) (topT (nf f) 1) 0 1).1.ended ∧ nf (needF (popF f 2) (topT f 0) (topT f 1) 0 1).1 = nf (needF (popF (nf f) 2) (topT (nf f) 0) (topT (nf f) 1) 0 1).1) ∧ (needF (popF f 2) (topT f 0) (topT f 1) 0 1).2 = (needF (popF (nf f) 2) (topT (nf f) 0) (topT (nf f) 1) 0 1).2 := by
    unfold needF
    cases hr : needE f.mem (topT f 0) (topT f 1) with
    | none =>
      have e1 : needE (popF f 2).mem (topT f 0) (topT f 1) = none := hr
      have e2 : needE (popF (nf f) 2).mem (topT (nf f) 0) (topT (nf f) 1) = none := hr
      rw [e1, e2]
      exact ⟨⟨rfl, rfl⟩, rfl⟩
    | some r =>
      obtain ⟨m, c⟩ := r
      have e1 : needE (popF f 2).mem (topT f 0) (topT f 1) = some (m, c) := hr
      have e2 : needE (popF (nf f) 2).mem (topT (nf f) 0) (topT (nf f) 1) = some (m, c) := hr
      rw [e1, e2]
      dsimp only
      by_cases hp : c + 0 * ((topT f 1 + 1 - 1) / 1) ≤ f.gas
      · have p1 : c + 0 * ((topT f 1 + 1 - 1) / 1) ≤ (popF f 2).gas := hp
        have p2 : c + 0 * ((topT (nf f) 1 + 1 - 1) / 1) ≤ (popF (nf f) 2).gas := hp
        rw [if_pos p1, if_pos p2]
        exact ⟨⟨rfl, rfl⟩, rfl⟩
      · have p1 : ¬ c + 0 * ((topT f 1 + 1 - 1) / 1) ≤ (popF f 2).gas := hp
        have p2 : ¬ c + 0 * ((topT (nf f) 1 + 1 - 1) / 1) ≤ (popF (nf f) 2).gas := hp
        rw [if_neg p1, if_neg p2]
        exact ⟨⟨rfl, rfl⟩, rfl⟩
  obtain ⟨⟨_, k1⟩, k2⟩ := key
  unfold giveF
  rw [k2]
  obtain ⟨A, hA⟩ : ∃ A, needF (popF f 2) (topT f 0) (topT f 1) 0 1 = A := ⟨_, rfl⟩
  obtain ⟨B, hB⟩ : ∃ B, needF (popF (nf f) 2) (topT (nf f) 0) (topT (nf f) 1) 0 1 = B := ⟨_, rfl⟩
  rw [hA, hB] at k1
  rw [hA, hB]
  obtain ⟨A1, A2⟩ := A
  obtain ⟨B1, B2⟩ := B
  dsimp only at k1 ⊢
  cases B2
  · show nf (pcF A1) = nf (pcF B1)
    rw [← nf_pc A1, ← nf_pc B1, k1]
  · show nf (pcF (endE A1 0 (cutE A1 (topT f 0) (topT f 1)))) = nf (pcF (endE B1 0 (cutE B1 (topT (nf f) 0) (topT (nf f) 1))))
    rw [← nf_pc (endE A1 0 (cutE A1 (topT f 0) (topT f 1))), ← nf_pc (endE B1 0 (cutE B1 (topT (nf f) 0) (topT (nf f) 1))), nf_endc A1, nf_endc B1, k1]
    rfl
theorem go_give (p : Nat) (f g : FrE) (w : World) (h : Fra p w f) (hg : nf f = g) (c : Nat) (hc : Can g 243 2 0 c) (hm : g.mem.length ≤ 131072) (hw : ∀ v ∈ g.stkL, v < 256 ^ 32) : StepTo p w (giveN g c) := by
  subst hg
  have h63 : (nf f).stkL.length ≤ 1099511627776 := room_le hc (by decide)
  obtain ⟨a1, a2, a3, a4, a5, a6⟩ := flowC_all (op := 243) (by decide)
  refine (step_flow p f (fun W f2 w1 => f2 = giveF (payN f c) 0 ∧ Upf p W (payN f c) w1 f2) 243 2 0 c w h hc.at_ hc.info hc.has hc.room hc.gas hc.small hc.code hc.pc a1 a2 a3 a4 a5 a6 (fun W _ hF => (flow_give p _ (dataE f.code f.pc) W hF h63 hc.has (by have := hc.small; show f.gas - c < _; exact Nat.lt_of_le_of_lt (Nat.sub_le _ _) this) hm hw).mono fun e w' h => ?_)).mono fun e w' h => ?_
  · obtain ⟨hv, h1, h2⟩ := h
    exact ⟨hv, _, ⟨rfl, h1⟩, h2⟩
  · obtain ⟨hv, hs⟩ := h
    obtain ⟨f2, rfl, h1, h2⟩ := hs.up
    exact ⟨hv, _, nf_give _, h1.below, h2⟩
def stopN (g : FrE) (c : Nat) : FrE := pcF (endE (payN g c) 0 [])
theorem go_stop (p : Nat) (f g : FrE) (w : World) (h : Fra p w f) (hg : nf f = g) (c : Nat) (hc : Can g 0 0 0 c) : StepTo p w (stopN g c) := by
  subst hg
  have h63 : (nf f).stkL.length ≤ 1099511627776 := room_le hc (by decide)
  obtain ⟨a1, a2, a3, a4, a5, a6⟩ := flowC_all (op := 0) (by decide)
  refine (step_flow p f (fun W f2 w1 => f2 = endE (payN f c) 0 [] ∧ Upf p W (payN f c) w1 f2) 0 0 0 c w h hc.at_ hc.info hc.has hc.room hc.gas hc.small hc.code hc.pc a1 a2 a3 a4 a5 a6 (fun W _ hF => (flow_stop p _ (dataE f.code f.pc) W hF h63).mono fun e w' h => ?_)).mono fun e w' h => ?_
  · obtain ⟨hv, h1, h2⟩ := h
    exact ⟨hv, _, ⟨rfl, h1⟩, h2⟩
  · obtain ⟨hv, hs⟩ := h
    obtain ⟨f2, rfl, h1, h2⟩ := hs.up
    exact ⟨hv, _, rfl, h1.below, h2⟩
def destN (g : FrE) (c : Nat) : FrE := pcF (payN g c)
theorem go_dest (p : Nat) (f g : FrE) (w : World) (h : Fra p w f) (hg : nf f = g) (c : Nat) (hc : Can g 91 0 0 c) : StepTo p w (destN g c) := by
  subst hg
  have h63 : (nf f).stkL.length ≤ 1099511627776 := room_le hc (by decide)
  obtain ⟨a1, a2, a3, a4, a5, a6⟩ := flowC_all (op := 91) (by decide)
  refine (step_flow p f (fun W f2 w1 => f2 = payN f c ∧ Upf p W (payN f c) w1 f2) 91 0 0 c w h hc.at_ hc.info hc.has hc.room hc.gas hc.small hc.code hc.pc a1 a2 a3 a4 a5 a6 (fun W _ hF => (flow_dest p _ (dataE f.code f.pc) W hF h63).mono fun e w' h => ?_)).mono fun e w' h => ?_
  · obtain ⟨hv, h1, h2⟩ := h
    exact ⟨hv, _, ⟨rfl, h1⟩, h2⟩
  · obtain ⟨hv, hs⟩ := h
    obtain ⟨f2, rfl, h1, h2⟩ := hs.up
    exact ⟨hv, _, rfl, h1.below, h2⟩
def jumpN (g : FrE) (c v : Nat) : FrE := nf (pcF (nextF (popF (payN g c) 1) v))
theorem go_jump (p : Nat) (f g : FrE) (w : World) (h : Fra p w f) (hg : nf f = g) (c v i : Nat) (js : List Nat) (hc : Can g 86 1 0 c) (ht : topT g 0 = v) (hto : IntsAt w g.tos js p) (hs : js.Pairwise (· < ·)) (hi : js[i]? = some v) (hv : v ≤ 1099511627776) (hjl : js.length ≤ 1099511627776) : StepTo p w (jumpN g c v) := by
  subst hg
  have h63 : (nf f).stkL.length ≤ 1099511627776 := room_le hc (by decide)
  obtain ⟨a1, a2, a3, a4, a5, a6⟩ := flowC_all (op := 86) (by decide)
  refine (step_flow p f (fun W f2 w1 => f2 = nextF (popF (payN f c) 1) v ∧ Upf p W (payN f c) w1 f2) 86 1 0 c w h hc.at_ hc.info hc.has hc.room hc.gas hc.small hc.code hc.pc a1 a2 a3 a4 a5 a6 (fun W hU hF => (flow_jump p _ (dataE f.code f.pc) W hF h63 v i js hc.has ht (hto.below hU.below) hs hi hv hjl).mono fun e w' h => ?_)).mono fun e w' h => ?_
  · obtain ⟨hv, h1, h2⟩ := h
    exact ⟨hv, _, ⟨rfl, h1⟩, h2⟩
  · obtain ⟨hv, hs⟩ := h
    obtain ⟨f2, rfl, h1, h2⟩ := hs.up
    exact ⟨hv, pcF (nextF (popF (payN f c) 1) v), rfl, h1.below, h2⟩
theorem go_poor (p : Nat) (f g : FrE) (w : World) (h : Fra p w f) (hg : nf f = g) (op : UInt8) (tk pt c : Nat) (hop : opE g.code g.pc = op) (hinf : infoE op = (tk, pt, c, true)) (hst : tk ≤ g.stkL.length) (hmx : g.stkL.length - tk + pt ≤ 1024) (hcg : g.gas < c) (hcl : g.code.length ≤ 1099511627776) (hpl : g.pc ≤ 1099511627776) : StepTo p w (failE g) := by
  subst hg
  refine (step_poor p f op tk pt c w h hop hinf hst hmx hcg hcl hpl).mono fun e w' h => ?_
  obtain ⟨hv, h1, h2⟩ := h
  exact ⟨hv, _, rfl, h1.below, h2⟩
end Go.Proofs.YtlelgbmbmajfmaaGreatDoor

namespace Go.Proofs.YtlelgbmbmajfmaaGreatDoor
open Go.RowKit Go.Shelf Go.Lib
attribute [local go_sem] Oper.semAt_some
def sub64E : Array Value → Sem Value := (Extern.MathBitsCarry.rows.getD 1 ("", fun _ => pure undef)).2
theorem sub64_law (x y c : Nat) (hc : c ≤ 1) (w : World) : (callFunc 52 #[.int .u64 x, .int .u64 y, .int .u64 c]).run Tryz.prog w = .ok (.value (.tuple #[.int .u64 (((x + 18446744073709551616 - y - c) % 18446744073709551616 : Nat) : Int), .int .u64 ((if x < y + c then 1 else 0 : Nat) : Int)])) w := by
  have key : (sub64E #[.int .u64 (x : Int), .int .u64 (y : Int), .int .u64 (c : Int)]).run Tryz.prog w = .ok (.tuple #[.int .u64 (((x + 18446744073709551616 - y - c) % 18446744073709551616 : Nat) : Int), .int .u64 ((if x < y + c then 1 else 0 : Nat) : Int)]) w := by
    have : c = 0 ∨ c = 1 := by omega
    rcases this with rfl | rfl <;> rfl
  rw [run_callFunc_extern Tryz.func52 (by kernel_rfl) (by kernel_rfl) (by kernel_rfl) (e := sub64E) (by kernel_rfl), key]
  rfl
/-- what is borrowed from a limb -/
def borE (a b : Nat) : Nat → Nat
  | 0 => 0
  | k + 1 => if limb a k < limb b k + borE a b k then 1 else 0
theorem borE_le (a b k : Nat) : borE a b k ≤ 1 := by
  cases k with
  | zero => exact Nat.zero_le _
  | succ k => show (if _ then 1 else 0) ≤ 1; split <;> omega
def difE (a b k : Nat) : Nat := (limb a k + 18446744073709551616 - limb b k - borE a b k) % 18446744073709551616
def subW (a b : Nat) : Nat := ofLimbs (difE a b 0) (difE a b 1) (difE a b 2) (difE a b 3)
theorem difE_lt (a b k : Nat) : difE a b k < 18446744073709551616 := Nat.mod_lt _ (by decide)
theorem limb_subW (a b : Nat) {k : Nat} (hk : k < 4) : limb (subW a b) k = difE a b k := by
  obtain ⟨h0, h1, h2, h3⟩ := limb_ofLimbs (difE_lt a b 0) (difE_lt a b 1) (difE_lt a b 2) (difE_lt a b 3)
  match k, hk with
  | 0, _ => exact h0
  | 1, _ => exact h1
  | 2, _ => exact h2
  | 3, _ => exact h3
set_option maxRecDepth 100000 in
set_option maxHeartbeats 6400000 in
theorem sub_any (a b : Nat) (w : World) : Calls Tryz.prog 20 #[.agg #[.int .u64 (limb a 0), .int .u64 (limb a 1), .int .u64 (limb a 2), .int .u64 (limb a 3)], .agg #[.int .u64 (limb b 0), .int .u64 (limb b 1), .int .u64 (limb b 2), .int .u64 (limb b 3)]] w fun e w' => e = .returned (.agg #[.int .u64 (limb (subW a b) 0), .int .u64 (limb (subW a b) 1), .int .u64 (limb (subW a b) 2), .int .u64 (limb (subW a b) 3)]) ∧ Below w.heap.size w w' := by
  obtain ⟨s, hs⟩ : ∃ s, subW a b = s := ⟨_, rfl⟩
  have HLS := Lib.hid (show ∀ k, k < 4 → difE a b k = limb s k from fun k hk => by rw [← hs]; exact (limb_subW a b hk).symm)
  rw [hs]
  obtain ⟨W0, hW0⟩ : ∃ W, ((((w.alloc (.cells #[.int .u64 (limb a 0), .int .u64 (limb a 1), .int .u64 (limb a 2), .int .u64 (limb a 3)] 24)).alloc (.cells #[.int .u64 (limb b 0), .int .u64 (limb b 1), .int .u64 (limb b 2), .int .u64 (limb b 3)] 24)).alloc (.cells #[.int .u64 0, .int .u64 0, .int .u64 0, .int .u64 0] 24)).alloc (.cells #[.int .u64 0, .int .u64 0, .int .u64 0, .int .u64 0] 24)) = W := ⟨_, rfl⟩
  have za : W4 W0 w.heap.size 0 a := by rw [← hW0]; exact (((W4.new w a 24).after (laid1 _ _)).after (laid1 _ _)).after (laid1 _ _)
  have zb : W4 W0 (w.heap.size + 1) 0 b := by
    have h := W4.new (w.alloc (.cells #[.int .u64 (limb a 0), .int .u64 (limb a 1), .int .u64 (limb a 2), .int .u64 (limb a 3)] 24)) b 24
    rw [World.size_alloc] at h
    rw [← hW0]; exact (h.after (laid1 _ _)).after (laid1 _ _)
  have ho : HasCells W0 (w.heap.size + 3) (sumC s 0) 24 := by
    have h := HasCells.new (((w.alloc (.cells #[.int .u64 (limb a 0), .int .u64 (limb a 1), .int .u64 (limb a 2), .int .u64 (limb a 3)] 24)).alloc (.cells #[.int .u64 (limb b 0), .int .u64 (limb b 1), .int .u64 (limb b 2), .int .u64 (limb b 3)] 24)).alloc (.cells #[.int .u64 0, .int .u64 0, .int .u64 0, .int .u64 0] 24)) (sumC s 0) 24
    simp only [World.size_alloc] at h
    rw [← hW0]; exact h
  have hr : HasCells W0 (w.heap.size + 2) [.int .u64 0, .int .u64 0, .int .u64 0, .int .u64 0] 24 := by
    have h := (HasCells.new ((w.alloc (.cells #[.int .u64 (limb a 0), .int .u64 (limb a 1), .int .u64 (limb a 2), .int .u64 (limb a 3)] 24)).alloc (.cells #[.int .u64 (limb b 0), .int .u64 (limb b 1), .int .u64 (limb b 2), .int .u64 (limb b 3)] 24)) [.int .u64 0, .int .u64 0, .int .u64 0, .int .u64 0] 24).after (laid1 _ (.cells #[.int .u64 0, .int .u64 0, .int .u64 0, .int .u64 0] 24))
    simp only [World.size_alloc] at h
    rw [← hW0]; exact h
  have hb0 : Below w.heap.size w W0 := by rw [← hW0]; exact (laid2 w _ _).trans ((laid2 _ _ _).mono (by simp only [World.size_alloc]; omega))
  have HW0 := Lib.hid hW0
  have HZA := Lib.hid za
  have HZB := Lib.hid zb
  have HO := Lib.hid ho
  have HRR := Lib.hid hr
  have HB0 := Lib.hid hb0
  clear hW0 za zb ho hr hb0 hs
  go_enter Tryz.func20, Tryz.ntmps20
  go_wp2_with (rw [HW0.out])
  go_loopw [8, 6] (fun i cv wr => ∃ k : Nat, k ≤ 4 ∧ i = .int .i64 k ∧ cv = .int .u64 (borE a b k) ∧ Hid (HasCells wr (w.heap.size + 3) (sumC s k) 24) ∧ Hid (W4 wr w.heap.size 0 a) ∧ Hid (W4 wr (w.heap.size + 1) 0 b) ∧ Hid (HasCells wr (w.heap.size + 2) [.int .u64 0, .int .u64 0, .int .u64 0, .int .u64 0] 24) ∧ Hid (Below w.heap.size w wr)) (fun i cv wr => 4 - (RowKit.intOf i).toNat)
  case atStart => exact ⟨0, by omega, rfl, rfl, HO, HZA, HZB, HRR, HB0⟩
  case round =>
    obtain ⟨k, hk, rfl, rfl, HOC, HA, HBB, HR2, HBL⟩ := hrel
    have q1 : (0 : Int) ≤ k := by omega
    obtain ⟨cc, hcc⟩ : ∃ c, borE a b k = c := ⟨_, rfl⟩
    by_cases hlt : k < 4
    · have q2 : (k : Int) < 4 := by omega
      have hadd := fun W => sub64_law (limb a k) (limb b k) cc (by rw [← hcc]; exact borE_le a b k) W
      have e1 : (limb a k + 18446744073709551616 - limb b k - cc) % 18446744073709551616 = limb s k := by rw [← HLS.out k hlt, ← hcc]; rfl
      have e2 : (if limb a k < limb b k + cc then 1 else 0 : Nat) = borE a b (k + 1) := by rw [← hcc]; rfl
      rw [e1, e2] at hadd
      have HSF := Lib.hid (show wr.cell? ⟨w.heap.size, k, none⟩ = some (.int .u64 (limb a k)) ∧ wr.cell? ⟨w.heap.size + 1, k, none⟩ = some (.int .u64 (limb b k)) from ⟨HA.out.at hlt, HBB.out.at hlt⟩)
      obtain ⟨u, hu⟩ := sumC_at s k hlt
      have HY := Lib.hid (show wr.drew.cell? ⟨w.heap.size + 3, k, none⟩ = some (.int .u64 u) ∧ wr.drew.frozen? ⟨w.heap.size + 3, k, none⟩ = false from ⟨HOC.out.cell hu, HOC.out.frozen k⟩)
      have HCC := Lib.hid hcc
      have hot : ∀ q, q ≠ w.heap.size + 3 → ((wr.drew.setCell ⟨w.heap.size + 3, k, none⟩ (.int .u64 (limb s k))).heap[q]? = wr.heap[q]?) := fun q hq => Below.heap_setCell wr.drew ⟨w.heap.size + 3, k, none⟩ _ q hq
      have HA2 := Lib.hid (HA.out.kept (hot _ (by omega)))
      have HBB2 := Lib.hid (HBB.out.kept (hot _ (by omega)))
      have HR3 := Lib.hid (HR2.out.kept (hot _ (by omega)))
      have HS2 := Lib.hid (And.intro (HA2.out.at hlt) (HBB2.out.at hlt))
      have hoc2 := HOC.out.set k (.int .u64 (limb s k))
      rw [sumC_set s k hlt] at hoc2
      have HOC2 := Lib.hid hoc2
      have HBL2 := Lib.hid (show Below w.heap.size w (wr.drew.setCell ⟨w.heap.size + 3, k, none⟩ (.int .u64 (limb s k))) from HBL.out.drew.setCell (p := ⟨w.heap.size + 3, k, none⟩) (show w.heap.size ≤ w.heap.size + 3 by omega) _)
      obtain ⟨nb, hnb⟩ : ∃ n, borE a b (k + 1) = n := ⟨_, rfl⟩
      have HNB := Lib.hid hnb
      rw [hnb] at hadd
      clear hoc2 hot e1 e2
      clear hu hnb
      rw [hcc]
      go_wp2_with fail
      refine wp_region_held_drew (S := (fun W => W.cell? ⟨w.heap.size, k, none⟩ = some (.int .u64 (limb a k)) ∧ W.cell? ⟨w.heap.size + 1, k, none⟩ = some (.int .u64 (limb b k)))) (by kernel_rfl) (HSF.out) (fun hHeld => ?_)
      refine hT 0 ?_
      refine hT 1 ?_
      refine hT 2 ?_
      refine hD 3 ?_
      refine hT 4 ?_
      refine hT 5 ?_
      refine hD 6 ?_
      refine hT 7 ?_
      refine hT 8 ?_
      refine hT 9 ?_
      refine hT 10 ?_
      refine hT 11 ?_
      refine hT 12 ?_
      have y1 := HY.out.1
      have y2 := HY.out.2
      refine wpAnyH_ready (rs := [13]) (by kernel_rfl) (by simp) ?_
      refine AllReadyH.cons rfl (fun K hK => ?_) AllReadyH.nil
      go_simp
      refine hK.out _ _ (HS2.out) (fun hHeld => ?_)
      clear hK K
      try simp only [Act.put, zq]
      refine hT 14 ?_
      refine wpAnyH_done (by kernel_rfl) ?_ 0
      go_wp2
      go_roundw
      case rel => exact ⟨k + 1, by omega, by go_num, by rw [HNB.out], HOC2, HA2, HBB2, HR3, HBL2⟩
      case measure => simp [RowKit.intOf]; omega
    · have q2 : ¬ ((k : Int) < 4) := by omega
      obtain rfl : k = 4 := by omega
      have hocc : HasCells wr (w.heap.size + 3) [.int .u64 (limb s 0), .int .u64 (limb s 1), .int .u64 (limb s 2), .int .u64 (limb s 3)] 24 := HOC.out
      have HOF := Lib.hid hocc
      clear hocc
      go_wp2_with (first | ((with_reducible refine load_gateK 24 ?_); refine wpList_load_midK rfl 24 _ rfl (w.heap.size + 3) 0 rfl [.int .u64 (limb s 0), .int .u64 (limb s 1), .int .u64 (limb s 2), .int .u64 (limb s 3)] _ HOF.out.range Tryz.underlying24 rfl infoW ?_) | ((with_reducible refine store_gateK 24 ?_); refine wpList_store_mid rfl 24 _ _ rfl (w.heap.size + 2) 0 #[.int .u64 (limb s 0), .int .u64 (limb s 1), .int .u64 (limb s 2), .int .u64 (limb s 3)] rfl rfl (HR2.out.there 0 4 (by decide)) infoW (oneW s) ?_))
      refine bodyPost_ret (results_cells rfl _ _ (w.heap.size + 2) [.int .u64 (limb s 0), .int .u64 (limb s 1), .int .u64 (limb s 2), .int .u64 (limb s 3)] _ (by rfl) ((HR2.out.whole (vs := [.int .u64 (limb s 0), .int .u64 (limb s 1), .int .u64 (limb s 2), .int .u64 (limb s 3)]) rfl).range) Tryz.underlying24 rfl infoW) rfl ?_
      exact ⟨rfl, below_sets (by omega) _ _ _ HBL.out⟩
/-- is a below b, limb by limb -/
def lessE (a b : Nat) : Nat → Bool
  | 0 => false
  | k + 1 => if limb a k = limb b k then lessE a b k else decide (limb a k < limb b k)
def lessB (a b : Nat) : Bool := lessE a b 4
set_option maxRecDepth 100000 in
set_option maxHeartbeats 6400000 in
theorem less_any (a b : Nat) (w : World) : Calls Tryz.prog 40 #[.agg #[.int .u64 (limb a 0), .int .u64 (limb a 1), .int .u64 (limb a 2), .int .u64 (limb a 3)], .agg #[.int .u64 (limb b 0), .int .u64 (limb b 1), .int .u64 (limb b 2), .int .u64 (limb b 3)]] w fun e w' => e = .returned (.bool (lessB a b)) ∧ Below w.heap.size w w' := by
  obtain ⟨rs, hrs⟩ : ∃ rs, lessB a b = rs := ⟨_, rfl⟩
  have HRS := Lib.hid hrs
  rw [hrs]
  obtain ⟨W0, hW0⟩ : ∃ W, (w.alloc (.cells #[.int .u64 (limb a 0), .int .u64 (limb a 1), .int .u64 (limb a 2), .int .u64 (limb a 3)] 24)).alloc (.cells #[.int .u64 (limb b 0), .int .u64 (limb b 1), .int .u64 (limb b 2), .int .u64 (limb b 3)] 24) = W := ⟨_, rfl⟩
  have HZA := Lib.hid (show W4 W0 w.heap.size 0 a from by rw [← hW0]; exact (W4.new w a 24).after (laid1 _ _))
  have HZB := Lib.hid (show W4 W0 (w.heap.size + 1) 0 b from by
    have h := W4.new (w.alloc (.cells #[.int .u64 (limb a 0), .int .u64 (limb a 1), .int .u64 (limb a 2), .int .u64 (limb a 3)] 24)) b 24
    rw [World.size_alloc] at h
    rw [← hW0]; exact h)
  have HB0 := Lib.hid (show Below w.heap.size w W0 from by rw [← hW0]; exact laid2 w _ _)
  have HW0 := Lib.hid hW0
  clear hW0 hrs
  go_enter Tryz.func40, Tryz.ntmps40
  go_wp2_with (rw [HW0.out])
  go_loopw [5] (fun iv wr => ∃ (m : Nat) (z : Int), iv = .int .i64 z ∧ Hid (z = (m : Int) - 1) ∧ Hid (m ≤ 4) ∧ Hid (lessE a b m = rs) ∧ Hid (W4 wr w.heap.size 0 a) ∧ Hid (W4 wr (w.heap.size + 1) 0 b) ∧ Hid (Below w.heap.size w wr)) (fun iv wr => (RowKit.intOf iv + 1).toNat)
  case atStart => exact ⟨4, 3, rfl, Lib.hid rfl, Lib.hid (Nat.le_refl _), HRS, HZA, HZB, HB0⟩
  case round =>
    obtain ⟨m, z, rfl, HZ, HM, HL, HA, HBB, HBL⟩ := hrel
    have hz := HZ.out
    have hm := HM.out
    cases m with
    | zero =>
      have q1 : ¬ ((0 : Int) ≤ z) := by omega
      obtain rfl : false = rs := HL.out
      clear hz
      go_wp2
      go_ret
      exact ⟨rfl, HBL.out⟩
    | succ i =>
      obtain rfl : z = (i : Int) := by omega
      clear hz
      have q1 : (0 : Int) ≤ i := by omega
      have q2 : (i : Int) < 4 := by omega
      have q3 : IntKind.i64.wrap ((i : Int) - 1) = (i : Int) - 1 := by rw [IntKind.wrap_i64]; omega
      have hi : i < 4 := by omega
      have HSF := Lib.hid (show wr.cell? ⟨w.heap.size, i, none⟩ = some (.int .u64 (limb a i)) ∧ wr.cell? ⟨w.heap.size + 1, i, none⟩ = some (.int .u64 (limb b i)) from ⟨HA.out.at hi, HBB.out.at hi⟩)
      have hl : (if limb a i = limb b i then lessE a b i else decide (limb a i < limb b i)) = rs := HL.out
      by_cases heq : limb a i = limb b i
      · rw [if_pos heq] at hl
        have HL2 := Lib.hid hl
        obtain ⟨x, hx⟩ : ∃ x, limb a i = x := ⟨_, rfl⟩
        rw [← heq, hx] at HSF
        clear hl heq hx
        go_wp2_with fail
        refine wp_region_held_drew (S := (fun W => W.cell? ⟨w.heap.size, i, none⟩ = some (.int .u64 x) ∧ W.cell? ⟨w.heap.size + 1, i, none⟩ = some (.int .u64 x))) (by kernel_rfl) (HSF.out) (fun hHeld => ?_)
        refine hT 0 ?_
        refine hT 1 ?_
        refine hD 2 ?_
        refine hT 3 ?_
        refine hT 4 ?_
        refine hD 5 ?_
        refine hT 6 ?_
        refine wpAnyH_done (by kernel_rfl) ?_ 0
        go_wp2
        go_roundw
        case rel => exact ⟨i, (i : Int) - 1, by first | rfl | go_num, Lib.hid rfl, Lib.hid (by omega), HL2, HA, HBB, Lib.hid HBL.out.drew⟩
        case measure => simp [RowKit.intOf]
      · rw [if_neg heq] at hl
        obtain ⟨x, hx⟩ : ∃ x, limb a i = x := ⟨_, rfl⟩
        obtain ⟨y, hy⟩ : ∃ y, limb b i = y := ⟨_, rfl⟩
        rw [hx, hy] at hl heq HSF
        have n1 : ¬ ((x : Int) = y) := by omega
        have n2 : ((x : Int) == y) = false := beq_eq_false_iff_ne.2 n1
        have HL3 := Lib.hid hl
        have HSG := Lib.hid (show wr.drew.cell? ⟨w.heap.size, i, none⟩ = some (.int .u64 x) ∧ wr.drew.cell? ⟨w.heap.size + 1, i, none⟩ = some (.int .u64 y) from HSF.out)
        clear hl hx hy
        go_wp2_with fail
        refine wp_region_held_drew (S := (fun W => W.cell? ⟨w.heap.size, i, none⟩ = some (.int .u64 x) ∧ W.cell? ⟨w.heap.size + 1, i, none⟩ = some (.int .u64 y))) (by kernel_rfl) (HSF.out) (fun hHeld => ?_)
        refine hT 0 ?_
        refine hT 1 ?_
        refine hD 2 ?_
        refine hT 3 ?_
        refine hT 4 ?_
        refine hD 5 ?_
        refine hT 6 ?_
        refine wpAnyH_done (by kernel_rfl) ?_ 0
        go_wp2_with fail
        refine wp_region_held_drew (S := (fun W => W.cell? ⟨w.heap.size, i, none⟩ = some (.int .u64 x) ∧ W.cell? ⟨w.heap.size + 1, i, none⟩ = some (.int .u64 y))) (by kernel_rfl) (HSG.out) (fun hHeld => ?_)
        refine hT 0 ?_
        refine hT 1 ?_
        refine hD 2 ?_
        refine hT 3 ?_
        refine hT 4 ?_
        refine hD 5 ?_
        refine hT 6 ?_
        refine hT 7 ?_
        refine wpAnyH_done (by kernel_rfl) ?_ 0
        go_wp2
        go_ret
        exact ⟨by rw [HL3.out]; rfl, HBL.out.drew.drew⟩
end Go.Proofs.YtlelgbmbmajfmaaGreatDoor
