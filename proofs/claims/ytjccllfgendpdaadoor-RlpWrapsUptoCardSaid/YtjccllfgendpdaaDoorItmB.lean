/- Contracts of slices.IndexFunc, slices.ContainsFunc, slices.EqualFunc over items in memory, at whatever function value. -/
import Derived.Test.YtjccllfgendpdaaDoorItmA
import Derived.Shelf.Abstract
import Derived.Shelf.SlicesQ.IndexFunc
namespace Go.Proofs.YtjccllfgendpdaaDoor
open Go.RowKit Go.Shelf Go.Lib

theorem any_hit {xs : List Item} {p : Item → Bool} {k : Nat} {x : Item} (h : xs[k]? = some x) (hq : p x = true) : xs.any p = true := by
  rw [List.any_eq_true]
  exact ⟨x, List.mem_of_getElem? h, hq⟩
theorem any_miss {xs : List Item} {p : Item → Bool} (h : ∀ j x, j < xs.length → xs[j]? = some x → p x = false) : xs.any p = false := by
  rw [List.any_eq_false]
  intro x hx
  obtain ⟨j, hj, e⟩ := List.mem_iff_getElem.1 hx
  rw [h j x hj (by rw [List.getElem?_eq_getElem hj, e])]; simp

/-- what is asked of a function of an item, over the items xs -/
def PredItems (g : Nat) (lb : Array Value) (xs : List Item) (p : Item → Bool) (w : World) : Prop :=
  ∀ (i : Nat) (x : Item) (v : Value) (W : World), xs[i]? = some x → Below w.heap.size w W → Reads W w.heap.size v x.list →
    Calls Tryd.prog g (#[.agg #[.bool x.isList, .string ⟨x.text.toArray⟩, v]] ++ lb) W fun e w' => e = .returned (.bool (p x)) ∧ Below w.heap.size w w'

set_option maxRecDepth 100000 in
set_option maxHeartbeats 2000000 in
theorem indexFunc_any (g : Nat) (lb : Array Value) (eg : ∀ args w, (callFunc g args).run Tryd.prog w = .ok (.enter g args) w) (xs : List Item) (p : Item → Bool) (v : Value) (w : World)
    (hr : Reads w w.heap.size v xs) (hp : PredItems g lb xs p w) (hlen : xs.length ≤ 1099511627776) :
    Calls Tryd.prog 78 #[v, .func (.func g) #[] lb] w fun e w' => (∃ n : Int, e = .returned (.int .i64 n) ∧ decide (0 ≤ n) = xs.any p) ∧ Below w.heap.size w w' := by
  obtain ⟨pt, cap, rfl⟩ := hr.form
  have Hr := Lib.hid hr
  have Hp := Lib.hid hp
  clear hr hp
  go_enter Tryd.func78, Tryd.ntmps78
  go_wp2
  go_loopg [5, 8] xs.length (fun gg _ s8 wr => ∃ k : Nat, k ≤ xs.length ∧ xs.length - k ≤ gg ∧ s8 = .int .i64 k ∧ Aside (Below w.heap.size w wr) ∧ Aside (∀ j x, j < k → xs[j]? = some x → p x = false))
  case atStart => exact ⟨0, by omega, by omega, rfl, Below.refl _ w, fun j x hj => absurd hj (Nat.not_lt_zero _)⟩
  case round =>
    obtain ⟨k, hk, hg, rfl, BW, A⟩ := hrel
    have g1 : (0 : Int) ≤ k := by omega
    by_cases hlt : k < xs.length
    · have hltz : (k : Int) < (xs.length : Int) := by omega
      obtain ⟨x, hx⟩ : ∃ x, xs[k]? = some x := ⟨xs[k], by simp [hlt]⟩
      obtain ⟨-, g0, o, rfl, hg0, hat⟩ := ((Hr.out).below BW.out (Nat.le_refl _)).at (by omega)
      obtain ⟨h1, h2, v', h3, h4⟩ := hat k x hx
      have hcall := Hp.out k x v' wr hx BW.out h4
      have HX := Lib.hid hx
      clear hat h4 hx
      cases hq : p x with
      | true =>
        rw [hq] at hcall
        go_wp2_with (go_at_fn g; refine hcall.mono ?_; rintro e w' ⟨rfl, hb'⟩)
        go_ret
        refine ⟨⟨k, rfl, ?_⟩, hb'⟩
        rw [any_hit HX.out hq]; simp
      | false =>
        rw [hq] at hcall
        go_wp2_with (go_at_fn g; refine hcall.mono ?_; rintro e w' ⟨rfl, hb'⟩)
        go_roundg (xs.length - (k + 1))
        case measure => omega
        case rel =>
          refine ⟨k + 1, by omega, by omega, by go_num, hb', (show Aside _ from fun j y hj hy => ?_)⟩
          by_cases e : j = k
          · subst e
            rw [HX.out] at hy; cases hy; exact hq
          · exact A.out j y (by omega) hy
    · have hltz : ¬ (k : Int) < (xs.length : Int) := by omega
      have : k = xs.length := by omega
      subst this
      go_wp2
      go_ret
      refine ⟨⟨-1, rfl, ?_⟩, BW.out⟩
      rw [any_miss A.out]; rfl

set_option maxRecDepth 100000 in
theorem containsFunc_any (g : Nat) (lb : Array Value) (eg : ∀ args w, (callFunc g args).run Tryd.prog w = .ok (.enter g args) w) (xs : List Item) (p : Item → Bool) (v : Value) (w : World)
    (hr : Reads w w.heap.size v xs) (hp : PredItems g lb xs p w) (hlen : xs.length ≤ 1099511627776) :
    Calls Tryd.prog 64 #[v, .func (.func g) #[] lb] w fun e w' => e = .returned (.bool (xs.any p)) ∧ Below w.heap.size w w' := by
  go_enter Tryd.func64, Tryd.ntmps64
  go_wp2_with (go_at_call 78; refine (indexFunc_any g lb eg xs p v _ hr hp hlen).mono ?_)
  rintro e w' ⟨⟨n, rfl, hn⟩, hb⟩
  go_wp2
  go_ret
  exact ⟨by rw [← hn]; rfl, hb⟩

set_option maxRecDepth 100000 in
set_option maxHeartbeats 2000000 in
theorem equalFunc_any (xs ys : List Item) (v1 v2 : Value) (w : World) (hr1 : Reads w w.heap.size v1 xs) (hr2 : Reads w w.heap.size v2 ys) (hlen : xs.length ≤ 1099511627776)
    (hp : ∀ (i : Nat) (x y : Item) (u1 u2 : Value) (W : World), xs[i]? = some x → ys[i]? = some y → Below w.heap.size w W → Reads W w.heap.size u1 x.list → Reads W w.heap.size u2 y.list →
      Calls Tryd.prog 34 #[.agg #[.bool x.isList, .string ⟨x.text.toArray⟩, u1], .agg #[.bool y.isList, .string ⟨y.text.toArray⟩, u2]] W fun e w' => e = .returned (.bool (same x y)) ∧ Below w.heap.size w w') :
    Calls Tryd.prog 53 #[v1, v2, .func (.func 34) #[] #[]] w fun e w' => e = .returned (.bool (sameAll xs ys)) ∧ Below w.heap.size w w' := by
  obtain ⟨p1, c1, rfl⟩ := hr1.form
  obtain ⟨p2, c2, rfl⟩ := hr2.form
  by_cases hle : xs.length = ys.length
  · have HL := Lib.hid hle
    rw [← hle] at hr2 ⊢
    have Hr1 := Lib.hid hr1
    have Hr2 := Lib.hid hr2
    have Hp := Lib.hid hp
    clear hr1 hr2 hp hle
    go_enter Tryd.func53, Tryd.ntmps53
    go_wp2
    go_loopg [7, 8, 9, 17] xs.length (fun gg _ _ _ i wr => ∃ k : Nat, k ≤ xs.length ∧ xs.length - k ≤ gg ∧ i = .int .i64 k ∧ Aside (Below w.heap.size w wr) ∧ Aside (∀ (j : Nat) x y, j < k → xs[j]? = some x → ys[j]? = some y → same x y = true))
    case atStart => exact ⟨0, by omega, by omega, rfl, Below.refl _ w, fun j x y hj => absurd hj (Nat.not_lt_zero _)⟩
    case round =>
      obtain ⟨k, hk, hg, rfl, BW, A⟩ := hrel
      have g1 : (0 : Int) ≤ k := by omega
      by_cases hlt : k < xs.length
      · have hltz : (k : Int) < (xs.length : Int) := by omega
        obtain ⟨x, hx⟩ : ∃ x, xs[k]? = some x := ⟨xs[k], by simp [hlt]⟩
        obtain ⟨y, hy⟩ : ∃ y, ys[k]? = some y := ⟨ys[k]'(by have := HL.out; omega), by simp⟩
        obtain ⟨-, ga, oa, rfl, hga, hat⟩ := ((Hr1.out).below BW.out (Nat.le_refl _)).at (by omega)
        obtain ⟨-, gb, ob, rfl, hgb, hat'⟩ := ((Hr2.out).below BW.out (Nat.le_refl _)).at (by omega)
        obtain ⟨h1, h2, v1, h3, h4⟩ := hat k x hx
        obtain ⟨h5, h6, v2, h7, h8⟩ := hat' k y hy
        obtain ⟨q1, n1, rfl⟩ := h4.form
        obtain ⟨q2, n2, rfl⟩ := h8.form
        have hz := BW.out.size
        have hga' : ga < wr.heap.size := by omega
        have hgb' : gb < wr.heap.size := by omega
        have Hcall := Lib.hid (fun W (hb : Below w.heap.size w W) r1 r2 => Hp.out k x y (.slice q1 x.list.length n1) (.slice q2 y.list.length n2) W hx hy hb r1 r2)
        have H4 := Lib.hid h4
        have H8 := Lib.hid h8
        have HX := Lib.hid hx
        have HY := Lib.hid hy
        clear hat hat' h4 h8 hx hy
        go_wp2_with fail
        refine (Hcall.out _ ((BW.out.alloc hz _).alloc (by simp; omega) _) (H4.out.below (((Below.refl _ wr).alloc hz _).alloc (by simp; omega) _) (Nat.le_refl _)) (H8.out.below (((Below.refl _ wr).alloc hz _).alloc (by simp; omega) _) (Nat.le_refl _))).mono ?_
        rintro e w' ⟨rfl, hb'⟩
        cases hq : same x y with
        | false =>
          go_wp2
          go_ret
          refine ⟨?_, hb'⟩
          have hf : sameAll xs ys = false := by
            cases h : sameAll xs ys with
            | false => rfl
            | true => rw [(sameAll_at xs ys HL.out).1 h k x y HX.out HY.out] at hq; cases hq
          rw [hf]; rfl
        | true =>
          go_wp2
          go_roundg (xs.length - (k + 1))
          case measure => omega
          case rel =>
            refine ⟨k + 1, by omega, by omega, by go_num, hb', (show Aside _ from fun j a b hj ha hc => ?_)⟩
            by_cases e : j = k
            · subst e
              rw [HX.out] at ha; rw [HY.out] at hc; cases ha; cases hc; exact hq
            · exact A.out j a b (by omega) ha hc
      · have hltz : ¬ (k : Int) < (xs.length : Int) := by omega
        have : k = xs.length := by omega
        subst this
        have hs : sameAll xs ys = true := (sameAll_at xs ys HL.out).2 (fun i x y hx hy => A.out i x y (by have := (List.getElem?_eq_some_iff.1 hx).1; exact this) hx hy)
        have HS := Lib.hid hs
        clear hs
        go_wp2
        go_ret
        exact ⟨by rw [HS.out]; rfl, BW.out⟩
  · have hne : sameAll xs ys = false := by
      cases h : sameAll xs ys with
      | false => rfl
      | true => exact absurd (sameAll_length h) hle
    rw [hne]
    have h1 : ¬ (xs.length : Int) = ys.length := by omega
    clear hne
    go_enter Tryd.func53, Tryd.ntmps53
    go_wp2
    go_ret
    exact ⟨rfl, Below.refl _ _⟩
end Go.Proofs.YtjccllfgendpdaaDoor
