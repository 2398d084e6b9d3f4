/- Contracts of deep and Deep, wrong and right, over items in memory. -/
import Derived.Test.YtjccllfgendpdaaDoorItmB
namespace Go.Proofs.YtjccllfgendpdaaDoor
open Go.RowKit Go.Shelf Go.Lib

theorem laid2 (w : World) (o1 o2 : Obj) : Below w.heap.size w ((w.alloc o1).alloc o2) := ((Below.refl _ _).alloc (Nat.le_refl _) _).alloc (by simp) _
theorem laid2_size (w : World) (o1 o2 : Obj) : ((w.alloc o1).alloc o2).heap.size = w.heap.size + 2 := by simp
theorem eg65 : ∀ args w, (callFunc 65 args).run Tryd.prog w = .ok (.enter 65 args) w := fun args w => by
  have h : ∃ c, Tryd.f65.body = some c := ⟨_, rfl⟩
  obtain ⟨c, hc⟩ := h
  have hn : ¬ Tryd.f65.name = "runtime.NumGoroutine" := by decide
  simp [callFunc, Tryd.func65, hn, hc]
theorem eg49 : ∀ args w, (callFunc 49 args).run Tryd.prog w = .ok (.enter 49 args) w := fun args w => by
  have h : ∃ c, Tryd.f49.body = some c := ⟨_, rfl⟩
  obtain ⟨c, hc⟩ := h
  have hn : ¬ Tryd.f49.name = "runtime.NumGoroutine" := by decide
  simp [callFunc, Tryd.func49, hn, hc]

set_option maxRecDepth 100000 in
set_option maxHeartbeats 1600000 in
theorem deepFn_any (x : Item) (m b : Nat) (p : Option Addr) (n c : Nat) (W : World) (hm : m < 1000000) (hb : b < W.heap.size) (hc : W.cell? ⟨b, 0, none⟩ = some (.int .i64 ((m + 1 : Nat) : Int)))
    (hd : ∀ W', Below W.heap.size W W' → Calls Tryd.prog 43 #[.agg #[.bool x.isList, .string ⟨x.text.toArray⟩, .slice p n c], .int .i64 m] W' fun e w' => e = .returned (.bool (deep x m)) ∧ Below W'.heap.size W' w') :
    Calls Tryd.prog 65 #[.agg #[.bool x.isList, .string ⟨x.text.toArray⟩, .slice p n c], .pointer (some ⟨b, 0, none⟩)] W fun e w' => e = .returned (.bool (deep x m)) ∧ Below W.heap.size W w' := by
  have HD := Lib.hid hd
  clear hd
  have hm1 : ((m + 1 : Nat) : Int) - 1 = m := by omega
  go_enter Tryd.func65, Tryd.ntmps65
  go_wp2_with fail
  have hz : W.heap.size ≤ (W.alloc (.cells #[.bool x.isList, .string ⟨x.text.toArray⟩, .slice p n c] 36)).heap.size := by simp
  have hB : Below W.heap.size W (W.alloc (.cells #[.bool x.isList, .string ⟨x.text.toArray⟩, .slice p n c] 36)) := (Below.refl _ _).alloc (Nat.le_refl _) _
  refine (HD.out _ hB).mono ?_
  rintro e w' ⟨rfl, hb'⟩
  have hR := hB.trans (hb'.mono hz)
  clear hB hb'
  go_wp2
  go_ret
  exact ⟨rfl, hR⟩

set_option maxRecDepth 100000 in
set_option maxHeartbeats 1600000 in
theorem deep_any (N : Nat) (hN : N ≤ 1099511627776) : ∀ (x : Item) (m : Nat) (v : Value) (w : World), x.size ≤ N → m < 1000000 → Reads w w.heap.size v x.list →
    Calls Tryd.prog 43 #[.agg #[.bool x.isList, .string ⟨x.text.toArray⟩, v], .int .i64 m] w fun e w' => e = .returned (.bool (deep x m)) ∧ Below w.heap.size w w' := by
  induction N with
  | zero => intro x m v w hx; have := x.size_pos; omega
  | succ N ih =>
    intro x m v w hx hm hr
    obtain ⟨p, c, rfl⟩ := hr.form
    have ih' := Lib.hid (ih (by omega))
    have hlen : x.list.length ≤ 1099511627776 := by have := length_lt_size x; omega
    have HX := Lib.hid hx
    clear ih hx
    cases m with
    | zero =>
      have hd : deep x 0 = true := by rw [deep_eq]; rfl
      rw [hd]
      clear hd
      go_enter Tryd.func43, Tryd.ntmps43
      go_wp2
      go_ret
      exact ⟨rfl, ((Below.refl _ _).alloc (Nat.le_refl _) _).alloc (by simp) _⟩
    | succ m =>
      have hd : deep x (m + 1) = x.list.any fun y => deep y m := by rw [deep_eq]; rfl
      rw [hd]
      clear hd
      have Hr := Lib.hid hr
      clear hr
      have h1 : decide (((m + 1 : Nat) : Int) < 1) = false := by simp; omega
      go_enter Tryd.func43, Tryd.ntmps43
      go_wp2_with fail
      refine (containsFunc_any _ _ eg65 x.list (fun y => deep y m) _ _ (Hr.out.below (laid2 _ _ _) (by rw [laid2_size]; omega)) (fun i y v W hy hW hv => ?_) hlen).mono ?_
      · obtain ⟨p', c', rfl⟩ := hv.form
        have hW' := hW.size
        rw [laid2_size] at hW'
        refine (deepFn_any y m (w.heap.size + 1) p' y.list.length c' W (by omega) (by omega) ?_ (fun W' hb' => ?_)).mono ?_
        · rw [hW.cell (p := ⟨w.heap.size + 1, 0, none⟩) (by rw [laid2_size]; show w.heap.size + 1 < _; omega)]
          simp
        · exact ih'.out y m _ W' (by have := size_child hy; have := HX.out; omega) (by omega) (hv.below (hb'.mono hW.size) (by have := hb'.size; have := hW.size; omega))
        · rintro e w' ⟨rfl, hb'⟩
          exact ⟨rfl, hW.trans (hb'.mono hW.size)⟩
      · rintro e w' ⟨rfl, hb'⟩
        have hR := (laid2 w _ _).trans (hb'.mono (by rw [laid2_size]; omega))
        clear hb'
        go_wp2
        go_ret
        exact ⟨rfl, hR⟩
end Go.Proofs.YtjccllfgendpdaaDoor
