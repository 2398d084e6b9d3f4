/- What the walks take: ItmH. -/
import Derived.Test.YthicdhnjincflaaGreatDoorU0
import Derived.Test.YthicdhnjincflaaGreatDoorU3
import Derived.Test.YthicdhnjincflaaGreatDoorU5
import Derived.Test.YthicdhnjincflaaGreatDoorU6
import Derived.Test.YthicdhnjincflaaGreatDoorU7
import Derived.Shelf.Abstract
import Derived.Shelf.SlicesQ.IndexFunc
import Derived.StillTailTactics
import Derived.RangeFuncRecord
namespace Go.Proofs.YthicdhnjincflaaGreatDoor
open Go.RowKit
theorem framed_short {s : List UInt8} {base : Nat} (h : s.length < 56) : framed s base = UInt8.ofNat (base + s.length) :: s := by unfold framed; rw [if_pos h]
theorem framed_long {s : List UInt8} {base : Nat} (h : ¬ s.length < 56) : framed s base = UInt8.ofNat (base + 55 + (num s.length).length) :: (num s.length ++ s) := by unfold framed; rw [if_neg h]
theorem size_mk (l : List UInt8) : (⟨l.toArray⟩ : ByteArray).size = l.length := by simp [ByteArray.size]
theorem low_nat {n : Nat} (h : n < 256) : (n : Int) = ((UInt8.ofNat n).toNat : Int) := by simp; omega
set_option maxRecDepth 100000 in
set_option maxHeartbeats 1600000 in
theorem framed_any (s : List UInt8) (base : Nat) (w : World) (hs : s.length ≤ 1099511627776) (hb : base ≤ 192) :
    Calls Tryz.prog 116 #[.string ⟨s.toArray⟩, .int .u8 base] w fun e w' => e = .returned (.string ⟨(framed s base).toArray⟩) ∧ Below w.heap.size w w' := by
  by_cases hl : s.length < 56
  · rw [framed_short hl]
    have e1 := low_nat (n := base + s.length) (by omega)
    obtain ⟨b, hbe⟩ : ∃ b, UInt8.ofNat (base + s.length) = b := ⟨_, rfl⟩
    rw [hbe] at e1 ⊢
    replace e1 : (base : Int) + s.length = b.toNat := by omega
    clear hbe
    have hlit : OwnB 5 w.heap.size (w.alloc (.cells #[.int .u8 b.toNat] 5)) (.slice (some ⟨w.heap.size, 0, none⟩) 1 1) [b] := OwnB.lit w [b] (Nat.le_refl _) (by simp)
    have hc := hlit.str (P := Tryz.prog) Tryz.underlying60 Tryz.underlying5 Tryz.underlying9
    clear hlit
    go_enter Tryz.func116, Tryz.ntmps116
    go_wp2
    go_ret
    exact ⟨by rw [app_mk]; rfl, (Below.refl _ _).alloc (Nat.le_refl _) _⟩
  · rw [framed_long hl]
    have hnl := num_length s.length
    obtain ⟨n, hne⟩ : ∃ n, num s.length = n := ⟨_, rfl⟩
    rw [hne] at hnl ⊢
    have Hn := Lib.hid hne
    clear hne
    have e1 := low_nat (n := base + 55 + n.length) (by omega)
    obtain ⟨b, hbe⟩ : ∃ b, UInt8.ofNat (base + 55 + n.length) = b := ⟨_, rfl⟩
    rw [hbe] at e1 ⊢
    replace e1 : (base : Int) + 55 + n.length = b.toNat := by omega
    clear hbe
    go_enter Tryz.func116, Tryz.ntmps116
    go_wp2_with fail
    refine (number_any s.length _ (by omega)).mono ?_
    rintro e w1 ⟨rfl, hb1⟩
    rw [Hn.out]
    have hlit : OwnB 5 w.heap.size (w1.alloc (.cells #[.int .u8 b.toNat] 5)) (.slice (some ⟨w1.heap.size, 0, none⟩) 1 1) [b] := OwnB.lit w1 [b] hb1.size (by simp)
    have hc := hlit.str (P := Tryz.prog) Tryz.underlying60 Tryz.underlying5 Tryz.underlying9
    clear hlit
    have hz := hb1.size
    go_wp2
    go_ret
    exact ⟨by rw [app_mk, app_mk]; simp, hb1.alloc hz _⟩
set_option maxRecDepth 100000 in
set_option maxHeartbeats 1600000 in
theorem head_any (s : List UInt8) (base : Nat) (w : World) (hs : s.length ≤ 1099511627776) (hb : base ≤ 192) :
    Calls Tryz.prog 96 #[.int .i64 s.length, .int .u8 base] w fun e w' => (∃ h, e = .returned (.string ⟨h.toArray⟩) ∧ Hid (h ++ s = framed s base ∧ h.length ≤ 9)) ∧ Below w.heap.size w w' := by
  by_cases hl : s.length < 56
  · rw [framed_short hl]
    have e1 := low_nat (n := base + s.length) (by omega)
    obtain ⟨b, hbe⟩ : ∃ b, UInt8.ofNat (base + s.length) = b := ⟨_, rfl⟩
    rw [hbe] at e1 ⊢
    replace e1 : (base : Int) + s.length = b.toNat := by omega
    clear hbe
    have hlit : OwnB 5 w.heap.size (w.alloc (.cells #[.int .u8 b.toNat] 5)) (.slice (some ⟨w.heap.size, 0, none⟩) 1 1) [b] := OwnB.lit w [b] (Nat.le_refl _) (by simp)
    have hc := hlit.str (P := Tryz.prog) Tryz.underlying60 Tryz.underlying5 Tryz.underlying9
    clear hlit
    go_enter Tryz.func96, Tryz.ntmps96
    go_wp2
    go_ret
    exact ⟨⟨[b], rfl, Lib.hid ⟨rfl, by simp⟩⟩, (Below.refl _ _).alloc (Nat.le_refl _) _⟩
  · rw [framed_long hl]
    have hnl := num_length s.length
    obtain ⟨n, hne⟩ : ∃ n, num s.length = n := ⟨_, rfl⟩
    rw [hne] at hnl ⊢
    have Hn := Lib.hid hne
    clear hne
    have e1 := low_nat (n := base + 55 + n.length) (by omega)
    obtain ⟨b, hbe⟩ : ∃ b, UInt8.ofNat (base + 55 + n.length) = b := ⟨_, rfl⟩
    rw [hbe] at e1 ⊢
    replace e1 : (base : Int) + 55 + n.length = b.toNat := by omega
    clear hbe
    go_enter Tryz.func96, Tryz.ntmps96
    go_wp2_with fail
    refine (numberRef_any s.length _ (by omega)).mono ?_
    rintro e w1 ⟨rfl, hb1⟩
    rw [Hn.out]
    have hlit : OwnB 5 w.heap.size (w1.alloc (.cells #[.int .u8 b.toNat] 5)) (.slice (some ⟨w1.heap.size, 0, none⟩) 1 1) [b] := OwnB.lit w1 [b] hb1.size (by simp)
    have hc := hlit.str (P := Tryz.prog) Tryz.underlying60 Tryz.underlying5 Tryz.underlying9
    clear hlit
    have hz := hb1.size
    go_wp2
    go_ret
    exact ⟨⟨b :: n, by rw [app_mk]; rfl, Lib.hid ⟨by simp, by simp; omega⟩⟩, hb1.alloc hz _⟩
end Go.Proofs.YthicdhnjincflaaGreatDoor
/- Contracts of slices.IndexFunc, slices.ContainsFunc, slices.EqualFunc over items in memory, at whatever function value. -/
namespace Go.Proofs.YthicdhnjincflaaGreatDoor
open Go.RowKit Go.Shelf Go.Lib
theorem any_hit {xs : List Item} {p : Item → Bool} {k : Nat} {x : Item} (h : xs[k]? = some x) (hq : p x = true) : xs.any p = true := by
  rw [List.any_eq_true]
  exact ⟨x, List.mem_of_getElem? h, hq⟩
theorem any_miss {xs : List Item} {p : Item → Bool} (h : ∀ j x, j < xs.length → xs[j]? = some x → p x = false) : xs.any p = false := by
  rw [List.any_eq_false]
  intro x hx
  obtain ⟨j, hj, e⟩ := List.mem_iff_getElem.1 hx
  rw [h j x hj (by rw [List.getElem?_eq_getElem hj, e])]; simp
def PredItems (g : Nat) (lb : Array Value) (xs : List Item) (p : Item → Bool) (w : World) : Prop :=
  ∀ (i : Nat) (x : Item) (v : Value) (W : World), xs[i]? = some x → Below w.heap.size w W → Reads W w.heap.size v x.list →
    Calls Tryz.prog g (#[.agg #[.bool x.isList, .string ⟨x.text.toArray⟩, v]] ++ lb) W fun e w' => e = .returned (.bool (p x)) ∧ Below w.heap.size w w'
set_option maxRecDepth 100000 in
set_option maxHeartbeats 2000000 in
theorem indexFunc_any (g : Nat) (lb : Array Value) (eg : ∀ args w, (callFunc g args).run Tryz.prog w = .ok (.enter g args) w) (xs : List Item) (p : Item → Bool) (v : Value) (w : World)
    (hr : Reads w w.heap.size v xs) (hp : PredItems g lb xs p w) (hlen : xs.length ≤ 1099511627776) :
    Calls Tryz.prog 122 #[v, .func (.func g) #[] lb] w fun e w' => (∃ n : Int, e = .returned (.int .i64 n) ∧ decide (0 ≤ n) = xs.any p) ∧ Below w.heap.size w w' := by
  obtain ⟨pt, cap, rfl⟩ := hr.form
  have Hr := Lib.hid hr
  have Hp := Lib.hid hp
  clear hr hp
  go_enter Tryz.func122, Tryz.ntmps122
  go_wp2
  go_loopg [5, 8] xs.length (fun gg _ s8 wr => ∃ k : Nat, k ≤ xs.length ∧ xs.length - k ≤ gg ∧ s8 = .int .i64 k ∧ Aside (Below w.heap.size w wr) ∧ Aside (∀ j x, j < k → xs[j]? = some x → p x = false))
  case atStart => exact ⟨0, by omega, by omega, rfl, Below.refl _ w, fun j x hj => absurd hj (Nat.not_lt_zero _)⟩
  case round =>
    obtain ⟨k, hk, hg, rfl, BW, A⟩ := hrel
    have g1 : (0 : Int) ≤ k := by omega
    by_cases hlt : k < xs.length
    · have hltz : (k : Int) < (xs.length : Int) := by omega
      obtain ⟨x, hx⟩ : ∃ x, xs[k]? = some x := ⟨xs[k], by simp [hlt]⟩
      obtain ⟨-, g0, o, rfl, hg0, hat⟩ := ((Hr.out).below BW.out (Nat.le_refl _)).at (by omega)
      obtain ⟨h1, h2, v', h3, h4⟩ := hat k x hx
      have hcall := Hp.out k x v' wr hx BW.out h4
      have HX := Lib.hid hx
      clear hat h4 hx
      cases hq : p x with
      | true =>
        rw [hq] at hcall
        go_wp2_with (go_at_fn g; refine hcall.mono ?_; rintro e w' ⟨rfl, hb'⟩)
        go_ret
        refine ⟨⟨k, rfl, ?_⟩, hb'⟩
        rw [any_hit HX.out hq]; simp
      | false =>
        rw [hq] at hcall
        go_wp2_with (go_at_fn g; refine hcall.mono ?_; rintro e w' ⟨rfl, hb'⟩)
        go_roundg (xs.length - (k + 1))
        case measure => omega
        case rel =>
          refine ⟨k + 1, by omega, by omega, by go_num, hb', (show Aside _ from fun j y hj hy => ?_)⟩
          by_cases e : j = k
          · subst e
            rw [HX.out] at hy; cases hy; exact hq
          · exact A.out j y (by omega) hy
    · have hltz : ¬ (k : Int) < (xs.length : Int) := by omega
      have : k = xs.length := by omega
      subst this
      go_wp2
      go_ret
      refine ⟨⟨-1, rfl, ?_⟩, BW.out⟩
      rw [any_miss A.out]; rfl
set_option maxRecDepth 100000 in
theorem containsFunc_any (g : Nat) (lb : Array Value) (eg : ∀ args w, (callFunc g args).run Tryz.prog w = .ok (.enter g args) w) (xs : List Item) (p : Item → Bool) (v : Value) (w : World)
    (hr : Reads w w.heap.size v xs) (hp : PredItems g lb xs p w) (hlen : xs.length ≤ 1099511627776) :
    Calls Tryz.prog 101 #[v, .func (.func g) #[] lb] w fun e w' => e = .returned (.bool (xs.any p)) ∧ Below w.heap.size w w' := by
  go_enter Tryz.func101, Tryz.ntmps101
  go_wp2_with (go_at_call 122; refine (indexFunc_any g lb eg xs p v _ hr hp hlen).mono ?_)
  rintro e w' ⟨⟨n, rfl, hn⟩, hb⟩
  go_wp2
  go_ret
  exact ⟨by rw [← hn]; rfl, hb⟩
end Go.Proofs.YthicdhnjincflaaGreatDoor
/- Contracts of deep and Deep, wrong and right, over items in memory. -/
namespace Go.Proofs.YthicdhnjincflaaGreatDoor
open Go.RowKit Go.Shelf Go.Lib
theorem laid2 (w : World) (o1 o2 : Obj) : Below w.heap.size w ((w.alloc o1).alloc o2) := ((Below.refl _ _).alloc (Nat.le_refl _) _).alloc (by simp) _
theorem laid2_size (w : World) (o1 o2 : Obj) : ((w.alloc o1).alloc o2).heap.size = w.heap.size + 2 := by simp
theorem eg65 : ∀ args w, (callFunc 102 args).run Tryz.prog w = .ok (.enter 102 args) w := fun args w => by
  have h : ∃ c, Tryz.f102.body = some c := ⟨_, rfl⟩
  obtain ⟨c, hc⟩ := h
  have hn : ¬ Tryz.f102.name = "runtime.NumGoroutine" := by decide
  simp [callFunc, Tryz.func102, hn, hc]
theorem eg49 : ∀ args w, (callFunc 93 args).run Tryz.prog w = .ok (.enter 93 args) w := fun args w => by
  have h : ∃ c, Tryz.f93.body = some c := ⟨_, rfl⟩
  obtain ⟨c, hc⟩ := h
  have hn : ¬ Tryz.f93.name = "runtime.NumGoroutine" := by decide
  simp [callFunc, Tryz.func93, hn, hc]
set_option maxRecDepth 100000 in
set_option maxHeartbeats 1600000 in
theorem deepFn_any (x : Item) (m b : Nat) (p : Option Addr) (n c : Nat) (W : World) (hm : m < 1000000) (hb : b < W.heap.size) (hc : W.cell? ⟨b, 0, none⟩ = some (.int .i64 ((m + 1 : Nat) : Int)))
    (hd : ∀ W', Below W.heap.size W W' → Calls Tryz.prog 78 #[.agg #[.bool x.isList, .string ⟨x.text.toArray⟩, .slice p n c], .int .i64 m] W' fun e w' => e = .returned (.bool (deep x m)) ∧ Below W'.heap.size W' w') :
    Calls Tryz.prog 102 #[.agg #[.bool x.isList, .string ⟨x.text.toArray⟩, .slice p n c], .pointer (some ⟨b, 0, none⟩)] W fun e w' => e = .returned (.bool (deep x m)) ∧ Below W.heap.size W w' := by
  have HD := Lib.hid hd
  clear hd
  have hm1 : ((m + 1 : Nat) : Int) - 1 = m := by omega
  go_enter Tryz.func102, Tryz.ntmps102
  go_wp2_with fail
  have hz : W.heap.size ≤ (W.alloc (.cells #[.bool x.isList, .string ⟨x.text.toArray⟩, .slice p n c] 46)).heap.size := by simp
  have hB : Below W.heap.size W (W.alloc (.cells #[.bool x.isList, .string ⟨x.text.toArray⟩, .slice p n c] 46)) := (Below.refl _ _).alloc (Nat.le_refl _) _
  refine (HD.out _ hB).mono ?_
  rintro e w' ⟨rfl, hb'⟩
  have hR := hB.trans (hb'.mono hz)
  clear hB hb'
  go_wp2
  go_ret
  exact ⟨rfl, hR⟩
set_option maxRecDepth 100000 in
set_option maxHeartbeats 1600000 in
theorem deep_any (N : Nat) (hN : N ≤ 1099511627776) : ∀ (x : Item) (m : Nat) (v : Value) (w : World), x.size ≤ N → m < 1000000 → Reads w w.heap.size v x.list →
    Calls Tryz.prog 78 #[.agg #[.bool x.isList, .string ⟨x.text.toArray⟩, v], .int .i64 m] w fun e w' => e = .returned (.bool (deep x m)) ∧ Below w.heap.size w w' := by
  induction N with
  | zero => intro x m v w hx; have := x.size_pos; omega
  | succ N ih =>
    intro x m v w hx hm hr
    obtain ⟨p, c, rfl⟩ := hr.form
    have ih' := Lib.hid (ih (by omega))
    have hlen : x.list.length ≤ 1099511627776 := by have := length_lt_size x; omega
    have HX := Lib.hid hx
    clear ih hx
    cases m with
    | zero =>
      have hd : deep x 0 = true := by rw [deep_eq]; rfl
      rw [hd]
      clear hd
      go_enter Tryz.func78, Tryz.ntmps78
      go_wp2
      go_ret
      exact ⟨rfl, ((Below.refl _ _).alloc (Nat.le_refl _) _).alloc (by simp) _⟩
    | succ m =>
      have hd : deep x (m + 1) = x.list.any fun y => deep y m := by rw [deep_eq]; rfl
      rw [hd]
      clear hd
      have Hr := Lib.hid hr
      clear hr
      have h1 : decide (((m + 1 : Nat) : Int) < 1) = false := by simp; omega
      go_enter Tryz.func78, Tryz.ntmps78
      go_wp2_with fail
      refine (containsFunc_any _ _ eg65 x.list (fun y => deep y m) _ _ (Hr.out.below (laid2 _ _ _) (by rw [laid2_size]; omega)) (fun i y v W hy hW hv => ?_) hlen).mono ?_
      · obtain ⟨p', c', rfl⟩ := hv.form
        have hW' := hW.size
        rw [laid2_size] at hW'
        refine (deepFn_any y m (w.heap.size + 1) p' y.list.length c' W (by omega) (by omega) ?_ (fun W' hb' => ?_)).mono ?_
        · rw [hW.cell (p := ⟨w.heap.size + 1, 0, none⟩) (by rw [laid2_size]; show w.heap.size + 1 < _; omega)]
          simp
        · exact ih'.out y m _ W' (by have := size_child hy; have := HX.out; omega) (by omega) (hv.below (hb'.mono hW.size) (by have := hb'.size; have := hW.size; omega))
        · rintro e w' ⟨rfl, hb'⟩
          exact ⟨rfl, hW.trans (hb'.mono hW.size)⟩
      · rintro e w' ⟨rfl, hb'⟩
        have hR := (laid2 w _ _).trans (hb'.mono (by rw [laid2_size]; omega))
        clear hb'
        go_wp2
        go_ret
        exact ⟨rfl, hR⟩
end Go.Proofs.YthicdhnjincflaaGreatDoor
/- Contracts of the reference's Deep, of wrong and right, over items in memory. -/
namespace Go.Proofs.YthicdhnjincflaaGreatDoor
open Go.RowKit Go.Shelf Go.Lib
theorem laid1 (w : World) (o : Obj) : Below w.heap.size w (w.alloc o) := (Below.refl _ _).alloc (Nat.le_refl _) _
theorem laid1_size (w : World) (o : Obj) : (w.alloc o).heap.size = w.heap.size + 1 := by simp
set_option maxRecDepth 100000 in
set_option maxHeartbeats 1600000 in
theorem deepRef_any (N : Nat) (hN : N ≤ 1099511627776) : ∀ (x : Item) (m : Nat) (v : Value) (w : World), x.size ≤ N → m < 1000000 → Reads w w.heap.size v x.list →
    Calls Tryz.prog 65 #[.agg #[.bool x.isList, .string ⟨x.text.toArray⟩, v], .int .i64 m] w fun e w' => e = .returned (.bool (deep x m)) ∧ Below w.heap.size w w' := by
  induction N with
  | zero => intro x m v w hx; have := x.size_pos; omega
  | succ N ih =>
    intro x m v w hx hm hr
    obtain ⟨p, c, rfl⟩ := hr.form
    have ih' := Lib.hid (ih (by omega))
    have hlen : x.list.length ≤ 1099511627776 := by have := length_lt_size x; omega
    have HX := Lib.hid hx
    clear ih hx
    cases m with
    | zero =>
      have hd : deep x 0 = true := by rw [deep_eq]; rfl
      rw [hd]
      clear hd
      go_enter Tryz.func65, Tryz.ntmps65
      go_wp2
      go_ret
      exact ⟨rfl, laid1 _ _⟩
    | succ m =>
      have hd : deep x (m + 1) = x.list.any fun y => deep y m := by rw [deep_eq]; rfl
      rw [hd]
      clear hd
      have Hr := Lib.hid hr
      clear hr
      have h1 : decide (((m + 1 : Nat) : Int) < 1) = false := by simp; omega
      go_enter Tryz.func65, Tryz.ntmps65
      go_wp2
      go_loopg [5] x.list.length (fun gg i wr => ∃ k : Nat, k ≤ x.list.length ∧ x.list.length - k ≤ gg ∧ i = .int .i64 k ∧ Aside (Below (w.heap.size + 1) (w.alloc (.cells #[.bool x.isList, .string ⟨x.text.toArray⟩, .slice p x.list.length c] 46)) wr) ∧ Aside (∀ j y, j < k → x.list[j]? = some y → deep y m = false))
      case atStart => exact ⟨0, by omega, by omega, rfl, Below.refl _ _, fun j x hj => absurd hj (Nat.not_lt_zero _)⟩
      case round =>
        obtain ⟨k, hk, hg, rfl, BW, A⟩ := hrel
        have g1 : (0 : Int) ≤ k := by omega
        have hBW := (laid1 w _).trans (BW.out.mono (by omega))
        have HBW := Lib.hid hBW
        have hz := hBW.size
        have hc2 : wr.cell? ⟨w.heap.size, 2, none⟩ = some (.slice p x.list.length c) := (BW.out.cell (p := ⟨w.heap.size, 2, none⟩) (Nat.lt_succ_self _)).trans (by simp)
        clear hBW
        by_cases hlt : k < x.list.length
        · have hltz : (k : Int) < (x.list.length : Int) := by omega
          obtain ⟨y, hy⟩ : ∃ y, x.list[k]? = some y := ⟨x.list[k], by simp [hlt]⟩
          obtain ⟨-, g0, o, rfl, hg0, hat⟩ := (Hr.out.below HBW.out hz).at (by omega)
          obtain ⟨h2, h3, v', h4, h5⟩ := hat k y hy
          have hcall := ih'.out y m v' wr (by have := size_child hy; have := HX.out; omega) (by omega) h5
          have HY := Lib.hid hy
          clear hat h5 hy
          cases hq : deep y m with
          | true =>
            rw [hq] at hcall
            go_wp2_with fail
            refine hcall.mono ?_
            rintro e w' ⟨rfl, hb'⟩
            have hb2 := HBW.out.trans (hb'.mono hz)
            clear hb'
            go_wp2
            go_ret
            refine ⟨?_, hb2⟩
            rw [any_hit HY.out hq]; rfl
          | false =>
            rw [hq] at hcall
            go_wp2_with fail
            refine hcall.mono ?_
            rintro e w' ⟨rfl, hb'⟩
            have hb2 := Lib.hid (BW.out.trans (hb'.mono (by have := BW.out.size; rw [laid1_size] at this; exact this)))
            clear hb'
            go_wp2
            go_roundg (x.list.length - (k + 1))
            case measure => omega
            case rel =>
              refine ⟨k + 1, by omega, by omega, by go_num, hb2.out, (show Aside _ from fun j z hj hz => ?_)⟩
              by_cases e : j = k
              · subst e
                rw [HY.out] at hz; cases hz; exact hq
              · exact A.out j z (by omega) hz
        · have hltz : ¬ (k : Int) < (x.list.length : Int) := by omega
          have : k = x.list.length := by omega
          subst this
          go_wp2
          go_ret
          refine ⟨?_, HBW.out⟩
          rw [any_miss A.out]; rfl
end Go.Proofs.YthicdhnjincflaaGreatDoor
/- Contracts of wrong and right, over items in memory. -/
namespace Go.Proofs.YthicdhnjincflaaGreatDoor
open Go.RowKit Go.Shelf Go.Lib
set_option maxRecDepth 100000 in
set_option maxHeartbeats 1600000 in
theorem wrong_any (N : Nat) (hN : N ≤ 1099511627776) : ∀ (x : Item) (v : Value) (w : World), x.size ≤ N → Reads w w.heap.size v x.list →
    Calls Tryz.prog 93 #[.agg #[.bool x.isList, .string ⟨x.text.toArray⟩, v]] w fun e w' => e = .returned (.bool (wrong x)) ∧ Below w.heap.size w w' := by
  induction N with
  | zero => intro x v w hx; have := x.size_pos; omega
  | succ N ih =>
    intro x v w hx hr
    obtain ⟨p, c, rfl⟩ := hr.form
    have ih' := Lib.hid (ih (by omega))
    have hlen : x.list.length ≤ 1099511627776 := by have := length_lt_size x; omega
    have HX := Lib.hid hx
    clear ih hx
    have Hr := Lib.hid hr
    clear hr
    rw [wrong_eq]
    cases hl : x.isList with
    | false =>
      go_enter Tryz.func93, Tryz.ntmps93
      go_wp2
      go_ret
      refine ⟨?_, laid1 _ _⟩
      cases x.list <;> simp
    | true =>
      cases ht : x.text with
      | nil =>
        go_enter Tryz.func93, Tryz.ntmps93
        go_wp2_with fail
        refine (containsFunc_any _ _ eg49 x.list wrong _ _ (Hr.out.below (laid1 _ _) (by rw [laid1_size]; omega)) (fun i y v W hy hW hv => ?_) hlen).mono ?_
        · have hW' := hW.size
          refine (ih'.out y v W (by have := size_child hy; have := HX.out; omega) (hv.below (Below.refl _ _) hW')).mono ?_
          rintro e w' ⟨rfl, hb'⟩
          exact ⟨rfl, hW.trans (hb'.mono hW')⟩
        · rintro e w' ⟨rfl, hb'⟩
          have hR := (laid1 w _).trans (hb'.mono (by rw [laid1_size]; omega))
          clear hb'
          go_wp2
          go_ret
          exact ⟨by simp, hR⟩
      | cons b t =>
        go_enter Tryz.func93, Tryz.ntmps93
        go_wp2_with fail
        go_ret
        exact ⟨rfl, laid1 _ _⟩
set_option maxRecDepth 100000 in
set_option maxHeartbeats 1600000 in
theorem right_any (N : Nat) (hN : N ≤ 1099511627776) : ∀ (x : Item) (v : Value) (w : World), x.size ≤ N → Reads w w.heap.size v x.list →
    Calls Tryz.prog 66 #[.agg #[.bool x.isList, .string ⟨x.text.toArray⟩, v]] w fun e w' => e = .returned (.bool (!wrong x)) ∧ Below w.heap.size w w' := by
  induction N with
  | zero => intro x v w hx; have := x.size_pos; omega
  | succ N ih =>
    intro x v w hx hr
    obtain ⟨p, c, rfl⟩ := hr.form
    have ih' := Lib.hid (ih (by omega))
    have hlen : x.list.length ≤ 1099511627776 := by have := length_lt_size x; omega
    have HX := Lib.hid hx
    clear ih hx
    have Hr := Lib.hid hr
    clear hr
    rw [wrong_eq]
    cases hl : x.isList with
    | false =>
      cases hx0 : x.list with
      | cons y r =>
        have h1 : ((r.length + 1 : Nat) : Int) > 0 := by omega
        have h2 : (0 : Int) < ((r.length + 1 : Nat) : Int) := by omega
        go_enter Tryz.func66, Tryz.ntmps66
        go_wp2
        go_ret
        exact ⟨rfl, laid1 _ _⟩
      | nil =>
        go_enter Tryz.func66, Tryz.ntmps66
        go_wp2
        go_loopw [3] (fun i wr => i = .int .i64 0 ∧ wr = w.alloc (.cells #[.bool false, .string ⟨x.text.toArray⟩, .slice p 0 c] 46)) (fun _ _ => 0)
        case atStart => exact ⟨rfl, rfl⟩
        case round =>
          obtain ⟨rfl, rfl⟩ := hrel
          go_wp2
          go_ret
          exact ⟨rfl, laid1 _ _⟩
    | true =>
      cases ht : x.text with
      | nil =>
        go_enter Tryz.func66, Tryz.ntmps66
        go_wp2_with fail
        go_loopg [3, 4] x.list.length (fun gg i _ wr => ∃ k : Nat, k ≤ x.list.length ∧ x.list.length - k ≤ gg ∧ i = .int .i64 k ∧ Aside (Below (w.heap.size + 1) (w.alloc (.cells #[.bool true, .string ⟨#[]⟩, .slice p x.list.length c] 46)) wr) ∧ Aside (∀ j y, j < k → x.list[j]? = some y → wrong y = false))
        case atStart => exact ⟨0, by omega, by omega, rfl, Below.refl _ _, fun j x hj => absurd hj (Nat.not_lt_zero _)⟩
        case round =>
          obtain ⟨k, hk, hg, rfl, BW, A⟩ := hrel
          have g1 : (0 : Int) ≤ k := by omega
          have hBW := (laid1 w _).trans (BW.out.mono (by omega))
          have HBW := Lib.hid hBW
          have hz := hBW.size
          have hc2 : wr.cell? ⟨w.heap.size, 2, none⟩ = some (.slice p x.list.length c) := (BW.out.cell (p := ⟨w.heap.size, 2, none⟩) (Nat.lt_succ_self _)).trans (by simp)
          clear hBW
          by_cases hlt : k < x.list.length
          · have hltz : (k : Int) < (x.list.length : Int) := by omega
            obtain ⟨y, hy⟩ : ∃ y, x.list[k]? = some y := ⟨x.list[k], by simp [hlt]⟩
            obtain ⟨-, g0, o, rfl, hg0, hat⟩ := (Hr.out.below HBW.out hz).at (by omega)
            obtain ⟨h2, h3, v', h4, h5⟩ := hat k y hy
            have hcall := ih'.out y v' wr (by have := size_child hy; have := HX.out; omega) h5
            have HY := Lib.hid hy
            clear hat h5 hy
            cases hq : wrong y with
            | true =>
              rw [hq] at hcall
              go_wp2_with fail
              refine hcall.mono ?_
              rintro e w' ⟨rfl, hb'⟩
              have hb2 := HBW.out.trans (hb'.mono hz)
              clear hb'
              go_wp2
              go_ret
              refine ⟨?_, hb2⟩
              rw [any_hit HY.out hq]; rfl
            | false =>
              rw [hq] at hcall
              go_wp2_with fail
              refine hcall.mono ?_
              rintro e w' ⟨rfl, hb'⟩
              have hb2 := Lib.hid (BW.out.trans (hb'.mono (by have := BW.out.size; rw [laid1_size] at this; exact this)))
              clear hb'
              go_wp2
              go_roundg (x.list.length - (k + 1))
              case measure => omega
              case rel =>
                refine ⟨k + 1, by omega, by omega, by go_num, hb2.out, (show Aside _ from fun j z hj hz => ?_)⟩
                by_cases e : j = k
                · subst e
                  rw [HY.out] at hz; cases hz; exact hq
                · exact A.out j z (by omega) hz
          · have hltz : ¬ (k : Int) < (x.list.length : Int) := by omega
            have : k = x.list.length := by omega
            subst this
            go_wp2
            go_ret
            refine ⟨?_, HBW.out⟩
            rw [any_miss A.out]; rfl
      | cons b t =>
        go_enter Tryz.func66, Tryz.ntmps66
        go_wp2_with fail
        go_ret
        exact ⟨rfl, laid1 _ _⟩
end Go.Proofs.YthicdhnjincflaaGreatDoor
/- Contract of put: an item's bytes, by a builder. -/
namespace Go.Proofs.YthicdhnjincflaaGreatDoor
open Go.RowKit Go.Shelf Go.Lib
theorem IsBuf.below {B b : Nat} {l : List UInt8} {w w' : World} (h : IsBuf B b l w) (hb : Below w.heap.size w w') : IsBuf B b l w' := by
  have key : ∀ {p : Value}, Lib.BuilderAtF 83 5 B b p (Lib.byteCells l) w → Lib.BuilderAtF 83 5 B b p (Lib.byteCells l) w' := by
    rintro p ⟨hB, v, hbk, ⟨hl, hown⟩, hne⟩
    refine ⟨hB, v, ?_, ⟨hl, ?_⟩, hne⟩
    · rw [hb.block b (Array.getElem?_eq_some_iff.1 hbk).1]; exact hbk
    · rcases hown with hown | ⟨g, cap, cur, fz, hv, hg, hh, r⟩
      · exact .inl hown
      · exact .inr ⟨g, cap, cur, fz, hv, hg, by rw [hb.block g (Array.getElem?_eq_some_iff.1 hh).1]; exact hh, r⟩
  rcases h with h | h
  · exact .inl (key h)
  · exact .inr (key h)
theorem IsBuf.new (B : Nat) (w : World) (hB : B ≤ w.heap.size) : IsBuf B w.heap.size [] (w.alloc (.cells #[.pointer none, .slice none 0 0] 83)) :=
  .inl ⟨hB, .slice none 0 0, World.alloc_heap_new w _, World.ownsRowF_nil _ _ _ _, by simp [Value.ownBlock]⟩
theorem IsBuf.laid {B b : Nat} {l : List UInt8} {w : World} (h : IsBuf B b l w) (o : Obj) : IsBuf B b l (w.alloc o) := Lib.IsBuilderF.alloc h o
theorem put_eq (x : Item) : put x = if x.isList then framed (putAll x.list) 192 else putText x.text := by
  cases x with
  | mk b t l => rw [put]; rfl
theorem framed_le (s : List UInt8) (b : Nat) : s.length < (framed s b).length := by
  unfold framed; split <;> simp <;> omega
theorem putAll_take {l : List Item} {k : Nat} {y : Item} (h : l[k]? = some y) : putAll (l.take (k + 1)) = putAll (l.take k) ++ put y := by
  rw [List.take_add_one, h, putAll_append]
  simp [putAll]
theorem putAll_take_le (l : List Item) (k : Nat) : (putAll (l.take k)).length ≤ (putAll l).length := by
  conv => rhs; rw [← List.take_append_drop k l, putAll_append]
  simp
theorem put_list {x : Item} (h : x.isList = true) : put x = framed (putAll x.list) 192 := by rw [put_eq, h]; rfl
theorem put_text {x : Item} (h : x.isList = false) : put x = putText x.text := by rw [put_eq, h]; rfl
set_option maxRecDepth 100000 in
set_option maxHeartbeats 3200000 in
theorem put_any (N : Nat) (hN : N ≤ 1099511627776) : ∀ (x : Item) (v : Value) (w : World), x.size ≤ N → (put x).length ≤ 1099511627776 → Reads w w.heap.size v x.list →
    Calls Tryz.prog 94 #[.agg #[.bool x.isList, .string ⟨x.text.toArray⟩, v]] w fun e w' => e = .returned (.string ⟨(put x).toArray⟩) ∧ Below w.heap.size w w' := by
  induction N with
  | zero => intro x v w hx; have := x.size_pos; omega
  | succ N ih =>
    intro x v w hx hp hr
    obtain ⟨p, c, rfl⟩ := hr.form
    have ih' := Lib.hid (ih (by omega))
    have hlen : x.list.length ≤ 1099511627776 := by have := length_lt_size x; omega
    have HX := Lib.hid hx
    have Hr := Lib.hid hr
    clear ih hx hr
    cases hb : x.isList with
    | false =>
      rw [put_text hb] at hp ⊢
      obtain ⟨t, ht⟩ : ∃ t, x.text = t := ⟨_, rfl⟩
      rw [ht] at hp ⊢
      by_cases h1 : t.length = 1
      · match t, h1 with
        | [b], _ =>
          by_cases h2 : b.toNat < 128
          · have e : putText [b] = [b] := by simp [putText, h2]
            rw [e]
            have h3 : (b.toNat : Int) < 128 := by omega
            have hgi : (⟨#[b]⟩ : ByteArray)[0]'(Nat.zero_lt_one) = b := rfl
            clear e hp
            go_enter Tryz.func94, Tryz.ntmps94
            go_wp2
            go_ret
            exact ⟨rfl, laid1 _ _⟩
          · have e : putText [b] = framed [b] 128 := by simp [putText, h2]
            rw [e] at hp ⊢
            have h3 : ¬ (b.toNat : Int) < 128 := by omega
            have hgi : (⟨#[b]⟩ : ByteArray)[0]'(Nat.zero_lt_one) = b := rfl
            clear e
            go_enter Tryz.func94, Tryz.ntmps94
            go_wp2_with fail
            refine (framed_any [b] 128 _ (by simp) (by omega)).mono ?_
            rintro e w' ⟨rfl, hb'⟩
            have hR := (laid1 w _).trans (hb'.mono (by rw [laid1_size]; omega))
            clear hb'
            go_wp2
            go_ret
            exact ⟨rfl, hR⟩
      · have e : putText t = framed t 128 := by simp [putText, h1]
        rw [e] at hp ⊢
        have h3 : ¬ (t.length : Int) = 1 := by omega
        clear e
        go_enter Tryz.func94, Tryz.ntmps94
        go_wp2_with fail
        refine (framed_any t 128 _ (by have := framed_le t 128; omega) (by omega)).mono ?_
        rintro e w' ⟨rfl, hb'⟩
        have hR := (laid1 w _).trans (hb'.mono (by rw [laid1_size]; omega))
        clear hb'
        go_wp2
        go_ret
        exact ⟨rfl, hR⟩
    | true =>
      rw [put_list hb] at hp ⊢
      have hpa := framed_le (putAll x.list) 192
      obtain ⟨n, hn⟩ : ∃ n, x.list.length = n := ⟨_, rfl⟩
      rw [hn] at Hr hlen ⊢
      have HN := Lib.hid hn
      have HP := Lib.hid (Nat.le_trans (Nat.le_of_lt hpa) hp)
      clear hn hp hpa
      go_enter Tryz.func94, Tryz.ntmps94
      go_wp2_with fail
      go_loopw [5, 11] (fun _ i wr => ∃ k : Nat, k ≤ n ∧ i = .int .i64 k ∧ IsBuf w.heap.size (w.heap.size + 1) (putAll (x.list.take k)) wr ∧ Below w.heap.size w wr) (fun _ i _ => n - (intOf i).toNat)
      case atStart =>
        refine ⟨0, by omega, rfl, ?_, laid2 _ _ _⟩
        have := IsBuf.new w.heap.size (w.alloc (.cells #[.bool true, .string ⟨x.text.toArray⟩, .slice p n c] 46)) (by simp)
        rw [laid1_size] at this
        simpa [putAll] using this
      case round =>
        obtain ⟨k, hk, rfl, hbuf, hB⟩ := hrel
        have g1 : (0 : Int) ≤ k := by omega
        by_cases hlt : k < n
        · have hltz : (k : Int) < (n : Int) := by omega
          have hz := hB.size
          obtain ⟨y, hy⟩ : ∃ y, x.list[k]? = some y := ⟨x.list[k]'(by rw [HN.out]; exact hlt), by simp⟩
          obtain ⟨-, g0, o, rfl, hg0, hat⟩ := (Hr.out.below hB hz).at (by omega)
          obtain ⟨h2, h3, v', h4, h5⟩ := hat k y hy
          obtain ⟨q1, n1, rfl⟩ := h5.form
          have HY := Lib.hid hy
          have H5 := Lib.hid h5
          clear hat h5 hy
          go_wp2_with fail
          have hsz := size_child HY.out
          have hpy := putAll_take HY.out
          have hple := putAll_take_le x.list (k + 1)
          rw [hpy, List.length_append] at hple
          have hpl : (put y).length ≤ 1099511627776 ∧ (putAll (x.list.take k)).length + (put y).length ≤ 1099511627776 := by have := HP.out; omega
          clear hple
          refine (ih'.out y _ _ (by have := HX.out; omega) hpl.1 (H5.out.below (laid1 _ _) (by rw [laid1_size]; omega))).mono ?_
          rintro e w1 ⟨rfl, hb1⟩
          have hbuf1 := (hbuf.laid (.cells #[.bool y.isList, .string ⟨y.text.toArray⟩, .slice q1 y.list.length n1] 46)).below hb1
          have hB1 := (hB.alloc hz (.cells #[.bool y.isList, .string ⟨y.text.toArray⟩, .slice q1 y.list.length n1] 46)).trans (hb1.mono (by rw [laid1_size]; omega))
          have HPY := Lib.hid hpy
          have HPL := Lib.hid hpl
          clear hbuf hB hb1 hsz hpy hpl
          go_wp2_with fail
          refine (writeString_any w.heap.size (w.heap.size + 1) _ _ w1 hbuf1 (by have := HPL.out.2; rw [size_mk]; omega) hB1.size).mono ?_
          rintro e w2 ⟨rfl, hbuf2, hB2, _⟩
          have hB3 := hB1.trans hB2
          clear hbuf1 hB1 hB2
          go_wp2
          refine ⟨⟨k + 1, by omega, by go_num, ?_, hB3⟩, by simp [intOf]; omega⟩
          rw [HPY.out]
          exact hbuf2
        · have hltz : ¬ (k : Int) < (n : Int) := by omega
          have : k = n := by omega
          subst this
          go_wp2_with fail
          refine (Tryz.Builder_String_any_k w.heap.size (w.heap.size + 1) _ wr hbuf hB.size).mono ?_
          rintro e w1 ⟨rfl, _, hB1, _⟩
          have hB2 := hB.trans hB1
          have HT := Lib.hid (show x.list.take k = x.list from List.take_of_length_le (by rw [HN.out]; exact Nat.le_refl _))
          rw [HT.out]
          clear hB hB1 hbuf
          go_wp2_with fail
          refine (framed_any _ 192 w1 HP.out (by omega)).mono ?_
          rintro e w2 ⟨rfl, hB3⟩
          have hB4 := hB2.trans (hB3.mono hB2.size)
          clear hB2 hB3
          go_wp2
          go_ret
          exact ⟨rfl, hB4⟩
end Go.Proofs.YthicdhnjincflaaGreatDoor
