/- Contracts of slices.IndexFunc, slices.ContainsFunc, slices.EqualFunc over items in memory, at whatever function value. -/
import Derived.Test.YtmjblnhnadffmaaDoorItmA
import Derived.Shelf.Abstract
import Derived.Shelf.SlicesQ.IndexFunc
namespace Go.Proofs.YtmjblnhnadffmaaDoor
open Go.RowKit Go.Shelf Go.Lib

theorem any_hit {xs : List Item} {p : Item → Bool} {k : Nat} {x : Item} (h : xs[k]? = some x) (hq : p x = true) : xs.any p = true := by
  rw [List.any_eq_true]
  exact ⟨x, List.mem_of_getElem? h, hq⟩
theorem any_miss {xs : List Item} {p : Item → Bool} (h : ∀ j x, j < xs.length → xs[j]? = some x → p x = false) : xs.any p = false := by
  rw [List.any_eq_false]
  intro x hx
  obtain ⟨j, hj, e⟩ := List.mem_iff_getElem.1 hx
  rw [h j x hj (by rw [List.getElem?_eq_getElem hj, e])]; simp

/-- what is asked of a function of an item, over the items xs -/
def PredItems (g : Nat) (lb : Array Value) (xs : List Item) (p : Item → Bool) (w : World) : Prop :=
  ∀ (i : Nat) (x : Item) (v : Value) (W : World), xs[i]? = some x → Below w.heap.size w W → Reads W w.heap.size v x.list →
    Calls Tryd.prog g (#[.agg #[.bool x.isList, .string ⟨x.text.toArray⟩, v]] ++ lb) W fun e w' => e = .returned (.bool (p x)) ∧ Below w.heap.size w w'

set_option maxRecDepth 100000 in
set_option maxHeartbeats 2000000 in
theorem indexFunc_any (g : Nat) (lb : Array Value) (eg : ∀ args w, (callFunc g args).run Tryd.prog w = .ok (.enter g args) w) (xs : List Item) (p : Item → Bool) (v : Value) (w : World)
    (hr : Reads w w.heap.size v xs) (hp : PredItems g lb xs p w) (hlen : xs.length ≤ 1099511627776) :
    Calls Tryd.prog 89 #[v, .func (.func g) #[] lb] w fun e w' => (∃ n : Int, e = .returned (.int .i64 n) ∧ decide (0 ≤ n) = xs.any p) ∧ Below w.heap.size w w' := by
  obtain ⟨pt, cap, rfl⟩ := hr.form
  have Hr := Lib.hid hr
  have Hp := Lib.hid hp
  clear hr hp
  go_enter Tryd.func89, Tryd.ntmps89
  go_wp2
  go_loopg [5, 8] xs.length (fun gg _ s8 wr => ∃ k : Nat, k ≤ xs.length ∧ xs.length - k ≤ gg ∧ s8 = .int .i64 k ∧ Aside (Below w.heap.size w wr) ∧ Aside (∀ j x, j < k → xs[j]? = some x → p x = false))
  case atStart => exact ⟨0, by omega, by omega, rfl, Below.refl _ w, fun j x hj => absurd hj (Nat.not_lt_zero _)⟩
  case round =>
    obtain ⟨k, hk, hg, rfl, BW, A⟩ := hrel
    have g1 : (0 : Int) ≤ k := by omega
    by_cases hlt : k < xs.length
    · have hltz : (k : Int) < (xs.length : Int) := by omega
      obtain ⟨x, hx⟩ : ∃ x, xs[k]? = some x := ⟨xs[k], by simp [hlt]⟩
      obtain ⟨-, g0, o, rfl, hg0, hat⟩ := ((Hr.out).below BW.out (Nat.le_refl _)).at (by omega)
      obtain ⟨h1, h2, v', h3, h4⟩ := hat k x hx
      have hcall := Hp.out k x v' wr hx BW.out h4
      have HX := Lib.hid hx
      clear hat h4 hx
      cases hq : p x with
      | true =>
        rw [hq] at hcall
        go_wp2_with (go_at_fn g; refine hcall.mono ?_; rintro e w' ⟨rfl, hb'⟩)
        go_ret
        refine ⟨⟨k, rfl, ?_⟩, hb'⟩
        rw [any_hit HX.out hq]; simp
      | false =>
        rw [hq] at hcall
        go_wp2_with (go_at_fn g; refine hcall.mono ?_; rintro e w' ⟨rfl, hb'⟩)
        go_roundg (xs.length - (k + 1))
        case measure => omega
        case rel =>
          refine ⟨k + 1, by omega, by omega, by go_num, hb', (show Aside _ from fun j y hj hy => ?_)⟩
          by_cases e : j = k
          · subst e
            rw [HX.out] at hy; cases hy; exact hq
          · exact A.out j y (by omega) hy
    · have hltz : ¬ (k : Int) < (xs.length : Int) := by omega
      have : k = xs.length := by omega
      subst this
      go_wp2
      go_ret
      refine ⟨⟨-1, rfl, ?_⟩, BW.out⟩
      rw [any_miss A.out]; rfl

set_option maxRecDepth 100000 in
theorem containsFunc_any (g : Nat) (lb : Array Value) (eg : ∀ args w, (callFunc g args).run Tryd.prog w = .ok (.enter g args) w) (xs : List Item) (p : Item → Bool) (v : Value) (w : World)
    (hr : Reads w w.heap.size v xs) (hp : PredItems g lb xs p w) (hlen : xs.length ≤ 1099511627776) :
    Calls Tryd.prog 70 #[v, .func (.func g) #[] lb] w fun e w' => e = .returned (.bool (xs.any p)) ∧ Below w.heap.size w w' := by
  go_enter Tryd.func70, Tryd.ntmps70
  go_wp2_with (go_at_call 89; refine (indexFunc_any g lb eg xs p v _ hr hp hlen).mono ?_)
  rintro e w' ⟨⟨n, rfl, hn⟩, hb⟩
  go_wp2
  go_ret
  exact ⟨by rw [← hn]; rfl, hb⟩

end Go.Proofs.YtmjblnhnadffmaaDoor
