/- Contracts of count and few: how many items there are in one. -/
import Derived.Test.YtjccllfgendpdaaDoorDecB
import Derived.Test.YtjccllfgendpdaaDoorRlpL
namespace Go.Proofs.YtjccllfgendpdaaDoor
open Go.RowKit Go.Shelf Go.Lib

/-- how many more might be counted behind the first k of a list -/
def cntAt (l : List Item) (k left : Nat) : Int := if sizeAll (l.take k) + 1 ≤ left then (left : Int) - 1 - sizeAll (l.take k) else -1
theorem cntAt_zero (l : List Item) (left : Nat) : cntAt l 0 left = left - 1 := by
  unfold cntAt
  simp [sizeAll]
  omega
theorem cntAt_end (x : Item) (k left : Nat) (hk : x.list.length ≤ k) : cntAt x.list k left = cnt x left := by
  unfold cntAt cnt
  rw [List.take_of_length_le hk, Item.size_eq]
  split <;> omega
theorem cntAt_out (x : Item) (k left : Nat) (h : cntAt x.list k left < 0) : cnt x left = -1 ∧ cntAt x.list k left = -1 := by
  unfold cntAt at h ⊢
  unfold cnt
  rw [Item.size_eq]
  have := sizeAll_take_le x.list k
  split at h
  · omega
  · rename_i hn
    rw [if_neg (by omega), if_neg hn]; exact ⟨rfl, rfl⟩
theorem cntAt_step (l : List Item) (k left : Nat) (y : Item) (hy : l[k]? = some y) (h : 0 ≤ cntAt l k left) : cnt y (cntAt l k left).toNat = cntAt l (k + 1) left := by
  unfold cntAt at h ⊢
  unfold cnt
  rw [sizeAll_take_succ hy]
  split at h
  · split <;> split <;> omega
  · omega
theorem cntAt_le (l : List Item) (k left : Nat) : cntAt l k left ≤ left ∧ -1 ≤ cntAt l k left := by
  unfold cntAt
  split <;> omega
theorem cnt_le (x : Item) (left : Nat) : cnt x left ≤ left ∧ -1 ≤ cnt x left := by
  unfold cnt
  split <;> omega

set_option maxRecDepth 100000 in
set_option maxHeartbeats 1600000 in
theorem count_any (N : Nat) (hN : N ≤ 1099511627776) : ∀ (x : Item) (m : Nat) (v : Value) (w : World), x.size ≤ N → m < 1000000 → Reads w w.heap.size v x.list →
    Calls Tryd.prog 48 #[.agg #[.bool x.isList, .string ⟨x.text.toArray⟩, v], .int .i64 m] w fun e w' => e = .returned (.int .i64 (cnt x m)) ∧ Below w.heap.size w w' := by
  induction N with
  | zero => intro x m v w hx; have := x.size_pos; omega
  | succ N ih =>
    intro x m v w hx hm hr
    obtain ⟨p, c, rfl⟩ := hr.form
    have ih' := Lib.hid (ih (by omega))
    have hlen : x.list.length ≤ 1099511627776 := by have := length_lt_size x; omega
    have HX := Lib.hid hx
    have Hr := Lib.hid hr
    clear ih hx hr
    have g0 : (0 : Int) ≤ m := by omega
    have g00 : (m : Int) ≤ 1000000 := by omega
    go_enter Tryd.func48, Tryd.ntmps48
    go_wp2
    go_loopg [5, 1] x.list.length (fun gg i q wr => ∃ (k : Nat) (d : Int), k ≤ x.list.length ∧ x.list.length - k ≤ gg ∧ i = .int .i64 k ∧ q = .int .i64 d ∧ Aside (d = cntAt x.list k m) ∧ Aside (Below (w.heap.size + 1) (w.alloc (.cells #[.bool x.isList, .string ⟨x.text.toArray⟩, .slice p x.list.length c] 36)) wr))
    case atStart => exact ⟨0, (m : Int) - 1, by omega, by omega, rfl, rfl, (cntAt_zero _ _).symm, Below.refl _ _⟩
    case round =>
      obtain ⟨k, d, hk, hg, rfl, rfl, HD, BW⟩ := hrel
      have g1 : (0 : Int) ≤ k := by omega
      have hBW := (laid1 w _).trans (BW.out.mono (by omega))
      have HBW := Lib.hid hBW
      have hz := hBW.size
      have hc2 : wr.cell? ⟨w.heap.size, 2, none⟩ = some (.slice p x.list.length c) := (BW.out.cell (p := ⟨w.heap.size, 2, none⟩) (Nat.lt_succ_self _)).trans (by simp)
      have hd1 : d ≤ m := by have := (cntAt_le x.list k m).1; rw [← HD.out] at this; omega
      have hd2 : -1 ≤ d := by have := (cntAt_le x.list k m).2; rw [← HD.out] at this; omega
      clear hBW
      by_cases hlt : k < x.list.length
      · have hltz : (k : Int) < (x.list.length : Int) := by omega
        by_cases hd0 : 0 ≤ d
        · obtain ⟨y, hy⟩ : ∃ y, x.list[k]? = some y := ⟨x.list[k], by simp [hlt]⟩
          obtain ⟨-, g0, o, rfl, hg0, hat⟩ := (Hr.out.below HBW.out hz).at (by omega)
          obtain ⟨h2, h3, v', h4, h5⟩ := hat k y hy
          have hcall := ih'.out y d.toNat v' wr (by have := size_child hy; have := HX.out; omega) (by omega) h5
          have hs := cntAt_step x.list k m y hy (by rw [← HD.out]; exact hd0)
          rw [← HD.out] at hs
          have hdd : ((d.toNat : Nat) : Int) = d := by omega
          rw [hs, hdd] at hcall
          have hcl := cntAt_le x.list (k + 1) m
          have hcl1 := hcl.1
          have hcl2 := hcl.2
          clear hat h5 hy hdd hs hcl
          go_wp2_with fail
          refine hcall.mono ?_
          rintro e w' ⟨rfl, hb'⟩
          have hb2 := Lib.hid (BW.out.trans (hb'.mono (by have := BW.out.size; rw [laid1_size] at this; exact this)))
          clear hb'
          go_wp2
          go_roundg (x.list.length - (k + 1))
          case measure => omega
          case rel => exact ⟨k + 1, _, by omega, by omega, by go_num, rfl, rfl, hb2.out⟩
        · have ho := cntAt_out x k m (by rw [← HD.out]; omega)
          have hdm : d = -1 := by rw [HD.out]; exact ho.2
          have H0 := Lib.hid ho.1
          clear ho HD
          subst hdm
          go_wp2
          go_ret
          refine ⟨?_, HBW.out⟩
          rw [H0.out]; rfl
      · have hltz : ¬ (k : Int) < (x.list.length : Int) := by omega
        go_wp2
        go_ret
        refine ⟨?_, HBW.out⟩
        rw [← cntAt_end x k m (by omega), ← HD.out]; rfl

/-- are two items of at most ten thousand each? -/
def fewB (x y : Item) : Bool := decide (x.size ≤ 10000) && decide (y.size ≤ 10000)
set_option maxRecDepth 100000 in
set_option maxHeartbeats 1600000 in
theorem few_any (x y : Item) (u v : Value) (w : World) (hx : x.size ≤ 1099511627776) (hy : y.size ≤ 1099511627776) (hr : Reads w w.heap.size u x.list) (hr2 : Reads w w.heap.size v y.list) :
    Calls Tryd.prog 31 #[.agg #[.bool x.isList, .string ⟨x.text.toArray⟩, u], .agg #[.bool y.isList, .string ⟨y.text.toArray⟩, v]] w fun e w' => e = .returned (.bool (fewB x y)) ∧ Below w.heap.size w w' := by
  obtain ⟨p, c, rfl⟩ := hr.form
  obtain ⟨p2, c2, rfl⟩ := hr2.form
  have hb0 : Below w.heap.size w ((w.alloc (.cells #[.bool x.isList, .string ⟨x.text.toArray⟩, .slice p x.list.length c] 36)).alloc (.cells #[.bool y.isList, .string ⟨y.text.toArray⟩, .slice p2 y.list.length c2] 36)) := (laid1 w _).alloc (by simp) _
  have HB0 := Lib.hid hb0
  have hbx : Box3 ((w.alloc (.cells #[.bool x.isList, .string ⟨x.text.toArray⟩, .slice p x.list.length c] 36)).alloc (.cells #[.bool y.isList, .string ⟨y.text.toArray⟩, .slice p2 y.list.length c2] 36)) (w.heap.size + 1) (.bool y.isList) (.string ⟨y.text.toArray⟩) (.slice p2 y.list.length c2) := by
    have := Box3.new (w.alloc (.cells #[.bool x.isList, .string ⟨x.text.toArray⟩, .slice p x.list.length c] 36)) (.bool y.isList) (.string ⟨y.text.toArray⟩) (.slice p2 y.list.length c2) 36
    simpa using this
  have HX := Lib.hid hbx
  have h1 := Lib.hid (count_any 1099511627776 (by omega) x 10000 (.slice p x.list.length c) _ hx (by omega) (hr.below hb0 hb0.size))
  have h2 := Lib.hid fun W (hb : Below w.heap.size w W) => count_any 1099511627776 (by omega) y 10000 (.slice p2 y.list.length c2) W hy (by omega) (hr2.below hb hb.size)
  clear hr hr2 hb0 hbx
  have e1 : cnt x 10000 = if x.size ≤ 10000 then ((10000 : Nat) : Int) - x.size else -1 := rfl
  have e2 : cnt y 10000 = if y.size ≤ 10000 then ((10000 : Nat) : Int) - y.size else -1 := rfl
  obtain ⟨a, ha⟩ : ∃ a, cnt x 10000 = a := ⟨_, rfl⟩
  obtain ⟨b, hb⟩ : ∃ b, cnt y 10000 = b := ⟨_, rfl⟩
  rw [ha] at e1 h1
  rw [hb] at e2 h2
  have E1 := Lib.hid e1
  have E2 := Lib.hid e2
  clear ha hb e1 e2
  by_cases ha : 0 ≤ a
  · have h10 : x.size ≤ 10000 := by
      have := E1.out
      split at this
      · assumption
      · omega
    go_enter Tryd.func31, Tryd.ntmps31
    go_wp2_with fail
    refine h1.out.mono ?_
    rintro e w2 ⟨rfl, hb2⟩
    obtain ⟨q0, q1, q2, -⟩ := HX.out.kept (hb2.block _ (by simp))
    have hB2 := HB0.out.trans (hb2.mono HB0.out.size)
    have HB2 := Lib.hid hB2
    have hc := Lib.hid (h2.out w2 hB2)
    clear hb2 hB2 h2 h1
    go_wp2_with fail
    refine hc.out.mono ?_
    rintro e w3 ⟨rfl, hb3⟩
    have HB3 := Lib.hid (HB2.out.trans (hb3.mono HB2.out.size))
    clear hb3
    go_wp2
    go_ret
    refine ⟨?_, HB3.out⟩
    have e3 : fewB x y = decide (0 ≤ b) := by
      unfold fewB
      have := E2.out
      by_cases h : y.size ≤ 10000
      · rw [if_pos h] at this; simp [h, h10]; omega
      · rw [if_neg h] at this; subst this; simp [h]
    rw [e3]; rfl
  · have h10 : ¬ x.size ≤ 10000 := fun h => by
      have := E1.out
      rw [if_pos h] at this
      omega
    go_enter Tryd.func31, Tryd.ntmps31
    go_wp2_with fail
    refine h1.out.mono ?_
    rintro e w2 ⟨rfl, hb2⟩
    have hB2 := HB0.out.trans (hb2.mono HB0.out.size)
    have HB2 := Lib.hid hB2
    clear hb2 hB2 h2 h1
    go_wp2
    go_ret
    refine ⟨?_, HB2.out⟩
    have e3 : fewB x y = false := by unfold fewB; simp [h10]
    rw [e3]; rfl
end Go.Proofs.YtjccllfgendpdaaDoor
