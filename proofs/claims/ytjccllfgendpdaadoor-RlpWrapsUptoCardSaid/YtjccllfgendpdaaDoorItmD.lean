/- Contracts of the reference's Deep, of wrong and right, over items in memory. -/
import Derived.Test.YtjccllfgendpdaaDoorItmC
namespace Go.Proofs.YtjccllfgendpdaaDoor
open Go.RowKit Go.Shelf Go.Lib

theorem laid1 (w : World) (o : Obj) : Below w.heap.size w (w.alloc o) := (Below.refl _ _).alloc (Nat.le_refl _) _
theorem laid1_size (w : World) (o : Obj) : (w.alloc o).heap.size = w.heap.size + 1 := by simp

set_option maxRecDepth 100000 in
set_option maxHeartbeats 1600000 in
theorem deepRef_any (N : Nat) (hN : N ≤ 1099511627776) : ∀ (x : Item) (m : Nat) (v : Value) (w : World), x.size ≤ N → m < 1000000 → Reads w w.heap.size v x.list →
    Calls Tryd.prog 45 #[.agg #[.bool x.isList, .string ⟨x.text.toArray⟩, v], .int .i64 m] w fun e w' => e = .returned (.bool (deep x m)) ∧ Below w.heap.size w w' := by
  induction N with
  | zero => intro x m v w hx; have := x.size_pos; omega
  | succ N ih =>
    intro x m v w hx hm hr
    obtain ⟨p, c, rfl⟩ := hr.form
    have ih' := Lib.hid (ih (by omega))
    have hlen : x.list.length ≤ 1099511627776 := by have := length_lt_size x; omega
    have HX := Lib.hid hx
    clear ih hx
    cases m with
    | zero =>
      have hd : deep x 0 = true := by rw [deep_eq]; rfl
      rw [hd]
      clear hd
      go_enter Tryd.func45, Tryd.ntmps45
      go_wp2
      go_ret
      exact ⟨rfl, laid1 _ _⟩
    | succ m =>
      have hd : deep x (m + 1) = x.list.any fun y => deep y m := by rw [deep_eq]; rfl
      rw [hd]
      clear hd
      have Hr := Lib.hid hr
      clear hr
      have h1 : decide (((m + 1 : Nat) : Int) < 1) = false := by simp; omega
      go_enter Tryd.func45, Tryd.ntmps45
      go_wp2
      go_loopg [5] x.list.length (fun gg i wr => ∃ k : Nat, k ≤ x.list.length ∧ x.list.length - k ≤ gg ∧ i = .int .i64 k ∧ Aside (Below (w.heap.size + 1) (w.alloc (.cells #[.bool x.isList, .string ⟨x.text.toArray⟩, .slice p x.list.length c] 36)) wr) ∧ Aside (∀ j y, j < k → x.list[j]? = some y → deep y m = false))
      case atStart => exact ⟨0, by omega, by omega, rfl, Below.refl _ _, fun j x hj => absurd hj (Nat.not_lt_zero _)⟩
      case round =>
        obtain ⟨k, hk, hg, rfl, BW, A⟩ := hrel
        have g1 : (0 : Int) ≤ k := by omega
        have hBW := (laid1 w _).trans (BW.out.mono (by omega))
        have HBW := Lib.hid hBW
        have hz := hBW.size
        have hc2 : wr.cell? ⟨w.heap.size, 2, none⟩ = some (.slice p x.list.length c) := (BW.out.cell (p := ⟨w.heap.size, 2, none⟩) (Nat.lt_succ_self _)).trans (by simp)
        clear hBW
        by_cases hlt : k < x.list.length
        · have hltz : (k : Int) < (x.list.length : Int) := by omega
          obtain ⟨y, hy⟩ : ∃ y, x.list[k]? = some y := ⟨x.list[k], by simp [hlt]⟩
          obtain ⟨-, g0, o, rfl, hg0, hat⟩ := (Hr.out.below HBW.out hz).at (by omega)
          obtain ⟨h2, h3, v', h4, h5⟩ := hat k y hy
          have hcall := ih'.out y m v' wr (by have := size_child hy; have := HX.out; omega) (by omega) h5
          have HY := Lib.hid hy
          clear hat h5 hy
          cases hq : deep y m with
          | true =>
            rw [hq] at hcall
            go_wp2_with fail
            refine hcall.mono ?_
            rintro e w' ⟨rfl, hb'⟩
            have hb2 := HBW.out.trans (hb'.mono hz)
            clear hb'
            go_wp2
            go_ret
            refine ⟨?_, hb2⟩
            rw [any_hit HY.out hq]; rfl
          | false =>
            rw [hq] at hcall
            go_wp2_with fail
            refine hcall.mono ?_
            rintro e w' ⟨rfl, hb'⟩
            have hb2 := Lib.hid (BW.out.trans (hb'.mono (by have := BW.out.size; rw [laid1_size] at this; exact this)))
            clear hb'
            go_wp2
            go_roundg (x.list.length - (k + 1))
            case measure => omega
            case rel =>
              refine ⟨k + 1, by omega, by omega, by go_num, hb2.out, (show Aside _ from fun j z hj hz => ?_)⟩
              by_cases e : j = k
              · subst e
                rw [HY.out] at hz; cases hz; exact hq
              · exact A.out j z (by omega) hz
        · have hltz : ¬ (k : Int) < (x.list.length : Int) := by omega
          have : k = x.list.length := by omega
          subst this
          go_wp2
          go_ret
          refine ⟨?_, HBW.out⟩
          rw [any_miss A.out]; rfl
end Go.Proofs.YtjccllfgendpdaaDoor
