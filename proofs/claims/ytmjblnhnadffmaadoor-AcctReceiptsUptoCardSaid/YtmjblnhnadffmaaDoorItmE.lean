/- Contracts of deep and Deep, wrong and right, over items in memory. -/
import Derived.Test.YtmjblnhnadffmaaDoorItmB
namespace Go.Proofs.YtmjblnhnadffmaaDoor
open Go.RowKit Go.Shelf Go.Lib

theorem laid2 (w : World) (o1 o2 : Obj) : Below w.heap.size w ((w.alloc o1).alloc o2) := ((Below.refl _ _).alloc (Nat.le_refl _) _).alloc (by simp) _
theorem laid2_size (w : World) (o1 o2 : Obj) : ((w.alloc o1).alloc o2).heap.size = w.heap.size + 2 := by simp
theorem eg65 : ∀ args w, (callFunc 71 args).run Tryd.prog w = .ok (.enter 71 args) w := fun args w => by
  have h : ∃ c, Tryd.f71.body = some c := ⟨_, rfl⟩
  obtain ⟨c, hc⟩ := h
  have hn : ¬ Tryd.f71.name = "runtime.NumGoroutine" := by decide
  simp [callFunc, Tryd.func71, hn, hc]
theorem eg49 : ∀ args w, (callFunc 56 args).run Tryd.prog w = .ok (.enter 56 args) w := fun args w => by
  have h : ∃ c, Tryd.f56.body = some c := ⟨_, rfl⟩
  obtain ⟨c, hc⟩ := h
  have hn : ¬ Tryd.f56.name = "runtime.NumGoroutine" := by decide
  simp [callFunc, Tryd.func56, hn, hc]

set_option maxRecDepth 100000 in
set_option maxHeartbeats 1600000 in
theorem deepFn_any (x : Item) (m b : Nat) (p : Option Addr) (n c : Nat) (W : World) (hm : m < 1000000) (hb : b < W.heap.size) (hc : W.cell? ⟨b, 0, none⟩ = some (.int .i64 ((m + 1 : Nat) : Int)))
    (hd : ∀ W', Below W.heap.size W W' → Calls Tryd.prog 51 #[.agg #[.bool x.isList, .string ⟨x.text.toArray⟩, .slice p n c], .int .i64 m] W' fun e w' => e = .returned (.bool (deep x m)) ∧ Below W'.heap.size W' w') :
    Calls Tryd.prog 71 #[.agg #[.bool x.isList, .string ⟨x.text.toArray⟩, .slice p n c], .pointer (some ⟨b, 0, none⟩)] W fun e w' => e = .returned (.bool (deep x m)) ∧ Below W.heap.size W w' := by
  have HD := Lib.hid hd
  clear hd
  have hm1 : ((m + 1 : Nat) : Int) - 1 = m := by omega
  go_enter Tryd.func71, Tryd.ntmps71
  go_wp2_with fail
  have hz : W.heap.size ≤ (W.alloc (.cells #[.bool x.isList, .string ⟨x.text.toArray⟩, .slice p n c] 51)).heap.size := by simp
  have hB : Below W.heap.size W (W.alloc (.cells #[.bool x.isList, .string ⟨x.text.toArray⟩, .slice p n c] 51)) := (Below.refl _ _).alloc (Nat.le_refl _) _
  refine (HD.out _ hB).mono ?_
  rintro e w' ⟨rfl, hb'⟩
  have hR := hB.trans (hb'.mono hz)
  clear hB hb'
  go_wp2
  go_ret
  exact ⟨rfl, hR⟩

set_option maxRecDepth 100000 in
set_option maxHeartbeats 1600000 in
theorem deep_any (N : Nat) (hN : N ≤ 1099511627776) : ∀ (x : Item) (m : Nat) (v : Value) (w : World), x.size ≤ N → m < 1000000 → Reads w w.heap.size v x.list →
    Calls Tryd.prog 51 #[.agg #[.bool x.isList, .string ⟨x.text.toArray⟩, v], .int .i64 m] w fun e w' => e = .returned (.bool (deep x m)) ∧ Below w.heap.size w w' := by
  induction N with
  | zero => intro x m v w hx; have := x.size_pos; omega
  | succ N ih =>
    intro x m v w hx hm hr
    obtain ⟨p, c, rfl⟩ := hr.form
    have ih' := Lib.hid (ih (by omega))
    have hlen : x.list.length ≤ 1099511627776 := by have := length_lt_size x; omega
    have HX := Lib.hid hx
    clear ih hx
    cases m with
    | zero =>
      have hd : deep x 0 = true := by rw [deep_eq]; rfl
      rw [hd]
      clear hd
      go_enter Tryd.func51, Tryd.ntmps51
      go_wp2
      go_ret
      exact ⟨rfl, ((Below.refl _ _).alloc (Nat.le_refl _) _).alloc (by simp) _⟩
    | succ m =>
      have hd : deep x (m + 1) = x.list.any fun y => deep y m := by rw [deep_eq]; rfl
      rw [hd]
      clear hd
      have Hr := Lib.hid hr
      clear hr
      have h1 : decide (((m + 1 : Nat) : Int) < 1) = false := by simp; omega
      go_enter Tryd.func51, Tryd.ntmps51
      go_wp2_with fail
      refine (containsFunc_any _ _ eg65 x.list (fun y => deep y m) _ _ (Hr.out.below (laid2 _ _ _) (by rw [laid2_size]; omega)) (fun i y v W hy hW hv => ?_) hlen).mono ?_
      · obtain ⟨p', c', rfl⟩ := hv.form
        have hW' := hW.size
        rw [laid2_size] at hW'
        refine (deepFn_any y m (w.heap.size + 1) p' y.list.length c' W (by omega) (by omega) ?_ (fun W' hb' => ?_)).mono ?_
        · rw [hW.cell (p := ⟨w.heap.size + 1, 0, none⟩) (by rw [laid2_size]; show w.heap.size + 1 < _; omega)]
          simp
        · exact ih'.out y m _ W' (by have := size_child hy; have := HX.out; omega) (by omega) (hv.below (hb'.mono hW.size) (by have := hb'.size; have := hW.size; omega))
        · rintro e w' ⟨rfl, hb'⟩
          exact ⟨rfl, hW.trans (hb'.mono hW.size)⟩
      · rintro e w' ⟨rfl, hb'⟩
        have hR := (laid2 w _ _).trans (hb'.mono (by rw [laid2_size]; omega))
        clear hb'
        go_wp2
        go_ret
        exact ⟨rfl, hR⟩
end Go.Proofs.YtmjblnhnadffmaaDoor
/- Contracts of the reference's Deep, of wrong and right, over items in memory. -/
namespace Go.Proofs.YtmjblnhnadffmaaDoor
open Go.RowKit Go.Shelf Go.Lib

theorem laid1 (w : World) (o : Obj) : Below w.heap.size w (w.alloc o) := (Below.refl _ _).alloc (Nat.le_refl _) _
theorem laid1_size (w : World) (o : Obj) : (w.alloc o).heap.size = w.heap.size + 1 := by simp

set_option maxRecDepth 100000 in
set_option maxHeartbeats 1600000 in
theorem deepRef_any (N : Nat) (hN : N ≤ 1099511627776) : ∀ (x : Item) (m : Nat) (v : Value) (w : World), x.size ≤ N → m < 1000000 → Reads w w.heap.size v x.list →
    Calls Tryd.prog 54 #[.agg #[.bool x.isList, .string ⟨x.text.toArray⟩, v], .int .i64 m] w fun e w' => e = .returned (.bool (deep x m)) ∧ Below w.heap.size w w' := by
  induction N with
  | zero => intro x m v w hx; have := x.size_pos; omega
  | succ N ih =>
    intro x m v w hx hm hr
    obtain ⟨p, c, rfl⟩ := hr.form
    have ih' := Lib.hid (ih (by omega))
    have hlen : x.list.length ≤ 1099511627776 := by have := length_lt_size x; omega
    have HX := Lib.hid hx
    clear ih hx
    cases m with
    | zero =>
      have hd : deep x 0 = true := by rw [deep_eq]; rfl
      rw [hd]
      clear hd
      go_enter Tryd.func54, Tryd.ntmps54
      go_wp2
      go_ret
      exact ⟨rfl, laid1 _ _⟩
    | succ m =>
      have hd : deep x (m + 1) = x.list.any fun y => deep y m := by rw [deep_eq]; rfl
      rw [hd]
      clear hd
      have Hr := Lib.hid hr
      clear hr
      have h1 : decide (((m + 1 : Nat) : Int) < 1) = false := by simp; omega
      go_enter Tryd.func54, Tryd.ntmps54
      go_wp2
      go_loopg [5] x.list.length (fun gg i wr => ∃ k : Nat, k ≤ x.list.length ∧ x.list.length - k ≤ gg ∧ i = .int .i64 k ∧ Aside (Below (w.heap.size + 1) (w.alloc (.cells #[.bool x.isList, .string ⟨x.text.toArray⟩, .slice p x.list.length c] 51)) wr) ∧ Aside (∀ j y, j < k → x.list[j]? = some y → deep y m = false))
      case atStart => exact ⟨0, by omega, by omega, rfl, Below.refl _ _, fun j x hj => absurd hj (Nat.not_lt_zero _)⟩
      case round =>
        obtain ⟨k, hk, hg, rfl, BW, A⟩ := hrel
        have g1 : (0 : Int) ≤ k := by omega
        have hBW := (laid1 w _).trans (BW.out.mono (by omega))
        have HBW := Lib.hid hBW
        have hz := hBW.size
        have hc2 : wr.cell? ⟨w.heap.size, 2, none⟩ = some (.slice p x.list.length c) := (BW.out.cell (p := ⟨w.heap.size, 2, none⟩) (Nat.lt_succ_self _)).trans (by simp)
        clear hBW
        by_cases hlt : k < x.list.length
        · have hltz : (k : Int) < (x.list.length : Int) := by omega
          obtain ⟨y, hy⟩ : ∃ y, x.list[k]? = some y := ⟨x.list[k], by simp [hlt]⟩
          obtain ⟨-, g0, o, rfl, hg0, hat⟩ := (Hr.out.below HBW.out hz).at (by omega)
          obtain ⟨h2, h3, v', h4, h5⟩ := hat k y hy
          have hcall := ih'.out y m v' wr (by have := size_child hy; have := HX.out; omega) (by omega) h5
          have HY := Lib.hid hy
          clear hat h5 hy
          cases hq : deep y m with
          | true =>
            rw [hq] at hcall
            go_wp2_with fail
            refine hcall.mono ?_
            rintro e w' ⟨rfl, hb'⟩
            have hb2 := HBW.out.trans (hb'.mono hz)
            clear hb'
            go_wp2
            go_ret
            refine ⟨?_, hb2⟩
            rw [any_hit HY.out hq]; rfl
          | false =>
            rw [hq] at hcall
            go_wp2_with fail
            refine hcall.mono ?_
            rintro e w' ⟨rfl, hb'⟩
            have hb2 := Lib.hid (BW.out.trans (hb'.mono (by have := BW.out.size; rw [laid1_size] at this; exact this)))
            clear hb'
            go_wp2
            go_roundg (x.list.length - (k + 1))
            case measure => omega
            case rel =>
              refine ⟨k + 1, by omega, by omega, by go_num, hb2.out, (show Aside _ from fun j z hj hz => ?_)⟩
              by_cases e : j = k
              · subst e
                rw [HY.out] at hz; cases hz; exact hq
              · exact A.out j z (by omega) hz
        · have hltz : ¬ (k : Int) < (x.list.length : Int) := by omega
          have : k = x.list.length := by omega
          subst this
          go_wp2
          go_ret
          refine ⟨?_, HBW.out⟩
          rw [any_miss A.out]; rfl
end Go.Proofs.YtmjblnhnadffmaaDoor

/- Contracts of wrong and right, over items in memory. -/
namespace Go.Proofs.YtmjblnhnadffmaaDoor
open Go.RowKit Go.Shelf Go.Lib

set_option maxRecDepth 100000 in
set_option maxHeartbeats 1600000 in
theorem wrong_any (N : Nat) (hN : N ≤ 1099511627776) : ∀ (x : Item) (v : Value) (w : World), x.size ≤ N → Reads w w.heap.size v x.list →
    Calls Tryd.prog 56 #[.agg #[.bool x.isList, .string ⟨x.text.toArray⟩, v]] w fun e w' => e = .returned (.bool (wrong x)) ∧ Below w.heap.size w w' := by
  induction N with
  | zero => intro x v w hx; have := x.size_pos; omega
  | succ N ih =>
    intro x v w hx hr
    obtain ⟨p, c, rfl⟩ := hr.form
    have ih' := Lib.hid (ih (by omega))
    have hlen : x.list.length ≤ 1099511627776 := by have := length_lt_size x; omega
    have HX := Lib.hid hx
    clear ih hx
    have Hr := Lib.hid hr
    clear hr
    rw [wrong_eq]
    cases hl : x.isList with
    | false =>
      go_enter Tryd.func56, Tryd.ntmps56
      go_wp2
      go_ret
      refine ⟨?_, laid1 _ _⟩
      cases x.list <;> simp
    | true =>
      cases ht : x.text with
      | nil =>
        go_enter Tryd.func56, Tryd.ntmps56
        go_wp2_with fail
        refine (containsFunc_any _ _ eg49 x.list wrong _ _ (Hr.out.below (laid1 _ _) (by rw [laid1_size]; omega)) (fun i y v W hy hW hv => ?_) hlen).mono ?_
        · have hW' := hW.size
          refine (ih'.out y v W (by have := size_child hy; have := HX.out; omega) (hv.below (Below.refl _ _) hW')).mono ?_
          rintro e w' ⟨rfl, hb'⟩
          exact ⟨rfl, hW.trans (hb'.mono hW')⟩
        · rintro e w' ⟨rfl, hb'⟩
          have hR := (laid1 w _).trans (hb'.mono (by rw [laid1_size]; omega))
          clear hb'
          go_wp2
          go_ret
          exact ⟨by simp, hR⟩
      | cons b t =>
        go_enter Tryd.func56, Tryd.ntmps56
        go_wp2_with fail
        go_ret
        exact ⟨rfl, laid1 _ _⟩

set_option maxRecDepth 100000 in
set_option maxHeartbeats 1600000 in
theorem right_any (N : Nat) (hN : N ≤ 1099511627776) : ∀ (x : Item) (v : Value) (w : World), x.size ≤ N → Reads w w.heap.size v x.list →
    Calls Tryd.prog 60 #[.agg #[.bool x.isList, .string ⟨x.text.toArray⟩, v]] w fun e w' => e = .returned (.bool (!wrong x)) ∧ Below w.heap.size w w' := by
  induction N with
  | zero => intro x v w hx; have := x.size_pos; omega
  | succ N ih =>
    intro x v w hx hr
    obtain ⟨p, c, rfl⟩ := hr.form
    have ih' := Lib.hid (ih (by omega))
    have hlen : x.list.length ≤ 1099511627776 := by have := length_lt_size x; omega
    have HX := Lib.hid hx
    clear ih hx
    have Hr := Lib.hid hr
    clear hr
    rw [wrong_eq]
    cases hl : x.isList with
    | false =>
      cases hx0 : x.list with
      | cons y r =>
        have h1 : ((r.length + 1 : Nat) : Int) > 0 := by omega
        have h2 : (0 : Int) < ((r.length + 1 : Nat) : Int) := by omega
        go_enter Tryd.func60, Tryd.ntmps60
        go_wp2
        go_ret
        exact ⟨rfl, laid1 _ _⟩
      | nil =>
        go_enter Tryd.func60, Tryd.ntmps60
        go_wp2
        go_loopw [3] (fun i wr => i = .int .i64 0 ∧ wr = w.alloc (.cells #[.bool false, .string ⟨x.text.toArray⟩, .slice p 0 c] 51)) (fun _ _ => 0)
        case atStart => exact ⟨rfl, rfl⟩
        case round =>
          obtain ⟨rfl, rfl⟩ := hrel
          go_wp2
          go_ret
          exact ⟨rfl, laid1 _ _⟩
    | true =>
      cases ht : x.text with
      | nil =>
        go_enter Tryd.func60, Tryd.ntmps60
        go_wp2_with fail
        go_loopg [3, 4] x.list.length (fun gg i _ wr => ∃ k : Nat, k ≤ x.list.length ∧ x.list.length - k ≤ gg ∧ i = .int .i64 k ∧ Aside (Below (w.heap.size + 1) (w.alloc (.cells #[.bool true, .string ⟨#[]⟩, .slice p x.list.length c] 51)) wr) ∧ Aside (∀ j y, j < k → x.list[j]? = some y → wrong y = false))
        case atStart => exact ⟨0, by omega, by omega, rfl, Below.refl _ _, fun j x hj => absurd hj (Nat.not_lt_zero _)⟩
        case round =>
          obtain ⟨k, hk, hg, rfl, BW, A⟩ := hrel
          have g1 : (0 : Int) ≤ k := by omega
          have hBW := (laid1 w _).trans (BW.out.mono (by omega))
          have HBW := Lib.hid hBW
          have hz := hBW.size
          have hc2 : wr.cell? ⟨w.heap.size, 2, none⟩ = some (.slice p x.list.length c) := (BW.out.cell (p := ⟨w.heap.size, 2, none⟩) (Nat.lt_succ_self _)).trans (by simp)
          clear hBW
          by_cases hlt : k < x.list.length
          · have hltz : (k : Int) < (x.list.length : Int) := by omega
            obtain ⟨y, hy⟩ : ∃ y, x.list[k]? = some y := ⟨x.list[k], by simp [hlt]⟩
            obtain ⟨-, g0, o, rfl, hg0, hat⟩ := (Hr.out.below HBW.out hz).at (by omega)
            obtain ⟨h2, h3, v', h4, h5⟩ := hat k y hy
            have hcall := ih'.out y v' wr (by have := size_child hy; have := HX.out; omega) h5
            have HY := Lib.hid hy
            clear hat h5 hy
            cases hq : wrong y with
            | true =>
              rw [hq] at hcall
              go_wp2_with fail
              refine hcall.mono ?_
              rintro e w' ⟨rfl, hb'⟩
              have hb2 := HBW.out.trans (hb'.mono hz)
              clear hb'
              go_wp2
              go_ret
              refine ⟨?_, hb2⟩
              rw [any_hit HY.out hq]; rfl
            | false =>
              rw [hq] at hcall
              go_wp2_with fail
              refine hcall.mono ?_
              rintro e w' ⟨rfl, hb'⟩
              have hb2 := Lib.hid (BW.out.trans (hb'.mono (by have := BW.out.size; rw [laid1_size] at this; exact this)))
              clear hb'
              go_wp2
              go_roundg (x.list.length - (k + 1))
              case measure => omega
              case rel =>
                refine ⟨k + 1, by omega, by omega, by go_num, hb2.out, (show Aside _ from fun j z hj hz => ?_)⟩
                by_cases e : j = k
                · subst e
                  rw [HY.out] at hz; cases hz; exact hq
                · exact A.out j z (by omega) hz
          · have hltz : ¬ (k : Int) < (x.list.length : Int) := by omega
            have : k = x.list.length := by omega
            subst this
            go_wp2
            go_ret
            refine ⟨?_, HBW.out⟩
            rw [any_miss A.out]; rfl
      | cons b t =>
        go_enter Tryd.func60, Tryd.ntmps60
        go_wp2_with fail
        go_ret
        exact ⟨rfl, laid1 _ _⟩
end Go.Proofs.YtmjblnhnadffmaaDoor
