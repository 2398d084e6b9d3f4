/- Contracts of Same, the program's and the reference's, over items in memory. -/
import Derived.Test.YtjccllfgendpdaaDoorItmE
import Derived.StillTailTactics
namespace Go.Proofs.YtjccllfgendpdaaDoor
open Go.RowKit Go.Shelf Go.Lib

set_option maxRecDepth 100000 in
set_option maxHeartbeats 1600000 in
theorem same_any (N : Nat) (hN : N ≤ 1099511627776) : ∀ (x y : Item) (u v : Value) (w : World), x.size ≤ N → y.size ≤ 1099511627776 → Reads w w.heap.size u x.list → Reads w w.heap.size v y.list →
    Calls Tryd.prog 34 #[.agg #[.bool x.isList, .string ⟨x.text.toArray⟩, u], .agg #[.bool y.isList, .string ⟨y.text.toArray⟩, v]] w fun e w' => e = .returned (.bool (same x y)) ∧ Below w.heap.size w w' := by
  induction N with
  | zero => intro x y u v w hx; have := x.size_pos; omega
  | succ N ih =>
    intro x y u v w hx hy hr1 hr2
    obtain ⟨p, c, rfl⟩ := hr1.form
    obtain ⟨q, d, rfl⟩ := hr2.form
    have ih' := Lib.hid (ih (by omega))
    have hlen : x.list.length ≤ 1099511627776 := by have := length_lt_size x; omega
    have HX := Lib.hid hx
    have HY := Lib.hid hy
    have Hr1 := Lib.hid hr1
    have Hr2 := Lib.hid hr2
    clear ih hx hy hr1 hr2
    rw [same_eq]
    cases hb : x.isList <;> cases hb' : y.isList
    case false.true | true.false =>
      all_goals
        go_enter Tryd.func34, Tryd.ntmps34
        go_wp2_with fail
        go_ret
        exact ⟨rfl, laid2 _ _ _⟩
    all_goals
      by_cases ht : x.text = y.text
      · rw [← ht]
        go_enter Tryd.func34, Tryd.ntmps34
        go_wp2_with fail
        refine (equalFunc_any x.list y.list _ _ _ (Hr1.out.below (laid2 _ _ _) (by rw [laid2_size]; omega)) (Hr2.out.below (laid2 _ _ _) (by rw [laid2_size]; omega)) hlen (fun i a b u1 u2 W ha hb2 hW r1 r2 => ?_)).mono ?_
        · refine (ih'.out a b u1 u2 W (by have := size_child ha; have := HX.out; omega) (by have := size_child hb2; have := HY.out; omega) (r1.below (Below.refl _ _) hW.size) (r2.below (Below.refl _ _) hW.size)).mono ?_
          rintro e w' ⟨rfl, h⟩
          exact ⟨rfl, hW.trans (h.mono hW.size)⟩
        · rintro e w' ⟨rfl, h⟩
          have hR := (laid2 w _ _).trans (h.mono (by rw [laid2_size]; omega))
          clear h
          go_wp2
          go_ret
          exact ⟨by simp, hR⟩
      · go_enter Tryd.func34, Tryd.ntmps34
        go_wp2_with fail
        go_ret
        exact ⟨by simp [ht], laid2 _ _ _⟩
end Go.Proofs.YtjccllfgendpdaaDoor
