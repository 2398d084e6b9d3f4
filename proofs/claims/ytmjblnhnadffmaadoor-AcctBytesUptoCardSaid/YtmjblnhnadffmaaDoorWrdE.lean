/- Two words compared: '==' of arrays of four numbers. -/
import Derived.Test.YtmjblnhnadffmaaDoorWrdB
import Derived.ChangeKeysEq
namespace Go.Proofs.YtmjblnhnadffmaaDoor
open Go.RowKit Go.Shelf Go.Lib

theorem infoU64 : (Tryd.prog.info? 22).isSome = true := by kernel_rfl
theorem cellsU64 : Tryd.prog.cellsOf 22 = 1 := by kernel_rfl
theorem plainU64 : Tryd.prog.plainKey 22 = true := by kernel_rfl
set_option maxRecDepth 100000 in
theorem eq_word (x0 x1 x2 x3 y0 y1 y2 y3 : Int) (W : World) :
    (Op.equalIn 10000 24 (.agg #[.int .u64 x0, .int .u64 x1, .int .u64 x2, .int .u64 x3]) (.agg #[.int .u64 y0, .int .u64 y1, .int .u64 y2, .int .u64 y3])).run Tryd.prog W = .ok (x0 == y0 && (x1 == y1 && (x2 == y2 && x3 == y3))) W := by
  obtain ⟨i, hi⟩ := Option.isSome_iff_exists.1 infoU64
  rw [show (10000 : Nat) = 9999 + 1 from rfl, run_equalIn_array W 9999 _ _ Tryd.underlying24 hi, cellsU64]
  have hr : List.range 4 = [0, 1, 2, 3] := rfl
  rw [hr]
  have hp : ∀ (v0 v1 v2 v3 : Int) (k : Nat) (u : Value) (W : World), (#[Value.int .u64 v0, .int .u64 v1, .int .u64 v2, .int .u64 v3])[k]? = some u → (Go.part 22 #[Value.int .u64 v0, .int .u64 v1, .int .u64 v2, .int .u64 v3] k).run Tryd.prog W = .ok u W := fun v0 v1 v2 v3 k u W h => run_part_plain W plainU64 h
  have he : ∀ (a b : Int) (W : World), (Op.equalIn 9999 22 (.int .u64 a) (.int .u64 b)).run Tryd.prog W = .ok (a == b) W := fun a b W => run_equalIn_int W 9998 _ _ _ _ _ Tryd.underlying22
  simp only [Op.eqItems, Sem.run_bind, Nat.mul_one, hp x0 x1 x2 x3 0 (.int .u64 x0) _ rfl, hp x0 x1 x2 x3 1 (.int .u64 x1) _ rfl, hp x0 x1 x2 x3 2 (.int .u64 x2) _ rfl, hp x0 x1 x2 x3 3 (.int .u64 x3) _ rfl, hp y0 y1 y2 y3 0 (.int .u64 y0) _ rfl, hp y0 y1 y2 y3 1 (.int .u64 y1) _ rfl, hp y0 y1 y2 y3 2 (.int .u64 y2) _ rfl, hp y0 y1 y2 y3 3 (.int .u64 y3) _ rfl, Result.andThen_ok, he, Sem.run_ite]
  cases (x0 == y0) <;> cases (x1 == y1) <;> cases (x2 == y2) <;> cases (x3 == y3) <;> simp
theorem eq_wordV {u v : Nat} (hu : u < 256 ^ 32) (hv : v < 256 ^ 32) (W : World) : (Op.equalIn 10000 24 (wordV u) (wordV v)).run Tryd.prog W = .ok (decide (u = v)) W := by
  unfold wordV
  rw [eq_word]
  congr 1
  by_cases h : u = v
  · subst h; simp
  · have hn : ¬ (limb u 0 = limb v 0 ∧ limb u 1 = limb v 1 ∧ limb u 2 = limb v 2 ∧ limb u 3 = limb v 3) := by
      rintro ⟨h0, h1, h2, h3⟩
      apply h
      rw [← ofLimbs_limb hu, ← ofLimbs_limb hv, h0, h1, h2, h3]
    rw [decide_eq_false h]
    apply Bool.eq_false_iff.2
    intro e
    simp only [Bool.and_eq_true, beq_iff_eq, Int.ofNat_inj] at e
    exact hn e
end Go.Proofs.YtmjblnhnadffmaaDoor
