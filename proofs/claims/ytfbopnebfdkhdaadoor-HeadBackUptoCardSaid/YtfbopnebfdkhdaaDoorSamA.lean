/- Contracts of pharosref13's many and numberOf, and of pharosref08.Same where both are alike. -/
import Derived.Test.YtfbopnebfdkhdaaDoorRdB
import Derived.Test.YtfbopnebfdkhdaaDoorDecB
import Derived.Test.YtfbopnebfdkhdaaDoorShaE
import Derived.Test.YtfbopnebfdkhdaaDoorSszE
import Derived.Test.YtfbopnebfdkhdaaDoorRdF
namespace Go.Proofs.YtfbopnebfdkhdaaDoor
open Go.RowKit Go.Shelf Go.Lib
attribute [local go_sem] Oper.semAt_some

set_option maxRecDepth 100000 in
theorem many_any (bl : Bool) (t : ByteArray) (p : Option Addr) (len c : Nat) (m : Int) (w : World) : Calls Tryd.prog 51 #[.agg #[.bool bl, .string t, .slice p len c], .int .i64 m] w fun e w' => e = .returned (.bool (bl && ((len : Int) == m))) ∧ Below w.heap.size w w' := by
  cases bl with
  | true =>
    go_enter Tryd.func51, Tryd.ntmps51
    go_wp2_with fail
    go_ret
    exact ⟨rfl, laid1 w _⟩
  | false =>
    go_enter Tryd.func51, Tryd.ntmps51
    go_wp2_with fail
    go_ret
    exact ⟨rfl, laid1 w _⟩
set_option maxRecDepth 100000 in
set_option maxHeartbeats 3200000 in
theorem numberOf_any (x : Item) (p : Option Addr) (len c : Nat) (w : World) : Calls Tryd.prog 57 #[.agg #[.bool x.isList, .string (txtB x), .slice p len c]] w fun e w' => e = .returned (.tuple #[.int .u64 (numV x), .bool (!(numB x))]) ∧ Below w.heap.size w w' := by
  have hV : ∀ W, Calls Tryd.prog 96 #[.string (txtB x)] W fun e w' => e = .returned (valueV x.text) ∧ w' = W := fun W => valueRef_any (txtB x) W
  obtain ⟨nv, hnv⟩ : ∃ v, (value x.text).1 = v := ⟨_, rfl⟩
  obtain ⟨ce, hce⟩ : ∃ v, (value x.text).2 = v := ⟨_, rfl⟩
  unfold valueV at hV
  rw [hnv, hce] at hV
  have HV := Lib.hid hV
  have hNB : numB x = (x.isList || decide (ce ≠ 0)) := by rw [← hce]; rfl
  have hNV : numV x = nv := hnv
  rw [hNB, hNV]
  obtain ⟨ib, hib⟩ : ∃ v, x.isList = v := ⟨_, rfl⟩
  obtain ⟨tx, htx⟩ : ∃ v, txtB x = v := ⟨_, rfl⟩
  rw [htx] at HV
  rw [hib, htx]
  clear hV hnv hce hNB hNV hib htx
  have HW := Lib.hid (laid1 w (.cells #[.bool ib, .string tx, .slice p len c] 80))
  have hc0 := cells_at w [.bool ib, .string tx, .slice p len c] 80 0 _ rfl
  have HC0 := Lib.hid hc0
  clear hc0
  by_cases hc : ce = 0
  · skip
    have hd : decide (ce ≠ 0) = false := by simp [hc]
    rw [hd]
    have hcb : (ce == 0) = true := by simp [hc]
    clear hd hc
    go_enter Tryd.func57, Tryd.ntmps57
    go_wp2_with fail
    refine (HV.out _).mono ?_
    rintro e w1 ⟨rfl, rfl⟩
    go_wp2_with fail
    refine wp_region_held_drew (S := fun W => W.cell? ⟨w.heap.size, 0, none⟩ = some (.bool ib)) (by kernel_rfl) (HC0.out) (fun hHeld => ?_)
    refine wpAnyH_take (i := 0) (v := ?_) rfl (by kernel_rfl) (by kernel_rfl) (by kernel_rfl) (fun _ _ _ h => h) (.inl ⟨by rfl, ?_⟩) (by assumption) ?_
    rotate_left 1
    · intro w0 hSw
      go_simp <;> with_reducible rfl
    try simp only [Act.put, List.getElem_toArray, List.getElem_cons_zero, List.setIfInBounds_toArray, List.set_cons_zero, List.set_cons_succ]
    refine wpAnyH_take (i := 1) (v := ?_) rfl (by kernel_rfl) (by kernel_rfl) (by kernel_rfl) (fun _ _ _ h => h) (.inl ⟨by rfl, ?_⟩) (by assumption) ?_
    rotate_left 1
    · intro w0 hSw
      go_simp <;> with_reducible rfl
    try simp only [Act.put, List.getElem_toArray, List.getElem_cons_zero, List.getElem_cons_succ, List.setIfInBounds_toArray, List.set_cons_zero, List.set_cons_succ]
    refine wpAnyH_take (i := 2) (v := ?_) rfl (by kernel_rfl) (by kernel_rfl) (by kernel_rfl) (fun _ _ _ h => h) (.inl ⟨by rfl, ?_⟩) (by assumption) ?_
    rotate_left 1
    · intro w0 hSw
      go_simp <;> with_reducible rfl
    try simp only [Act.put, List.getElem_toArray, List.getElem_cons_zero, List.getElem_cons_succ, List.setIfInBounds_toArray, List.set_cons_zero, List.set_cons_succ]
    refine wpAnyH_take (i := 3) (v := ?_) rfl (by kernel_rfl) (by kernel_rfl) (by kernel_rfl) (fun _ _ _ h => h) (.inl ⟨by rfl, ?_⟩) (by assumption) ?_
    rotate_left 1
    · intro w0 hSw
      go_simp <;> with_reducible rfl
    try simp only [Act.put, List.getElem_toArray, List.getElem_cons_zero, List.getElem_cons_succ, List.setIfInBounds_toArray, List.set_cons_zero, List.set_cons_succ]
    refine wpAnyH_take (i := 4) (v := ?_) rfl (by kernel_rfl) (by kernel_rfl) (by kernel_rfl) (fun _ _ _ h => h) (.inl ⟨by rfl, ?_⟩) (by assumption) ?_
    rotate_left 1
    · intro w0 hSw
      go_simp <;> with_reducible rfl
    try simp only [Act.put, List.getElem_toArray, List.getElem_cons_zero, List.getElem_cons_succ, List.setIfInBounds_toArray, List.set_cons_zero, List.set_cons_succ]
    refine wpAnyH_take (i := 5) (v := ?_) rfl (by kernel_rfl) (by kernel_rfl) (by kernel_rfl) (fun _ _ _ h => h) (.inl ⟨by rfl, ?_⟩) (by assumption) ?_
    rotate_left 1
    · intro w0 hSw
      go_simp <;> with_reducible rfl
    try simp only [Act.put, List.getElem_toArray, List.getElem_cons_zero, List.getElem_cons_succ, List.setIfInBounds_toArray, List.set_cons_zero, List.set_cons_succ]
    refine wpAnyH_take (i := 6) (v := ?_) rfl (by kernel_rfl) (by kernel_rfl) (by kernel_rfl) (fun _ _ _ h => h) (.inl ⟨by rfl, ?_⟩) (by assumption) ?_
    rotate_left 1
    · intro w0 hSw
      go_simp <;> with_reducible rfl
    try simp only [Act.put, List.getElem_toArray, List.getElem_cons_zero, List.getElem_cons_succ, List.setIfInBounds_toArray, List.set_cons_zero, List.set_cons_succ]
    refine wpAnyH_take (i := 7) (v := ?_) rfl (by kernel_rfl) (by kernel_rfl) (by kernel_rfl) (fun _ _ _ h => h) (.inl ⟨by rfl, ?_⟩) (by assumption) ?_
    rotate_left 1
    · intro w0 hSw
      go_simp <;> with_reducible rfl
    try simp only [Act.put, List.getElem_toArray, List.getElem_cons_zero, List.getElem_cons_succ, List.setIfInBounds_toArray, List.set_cons_zero, List.set_cons_succ]
    refine wpAnyH_take (i := 8) (v := ?_) rfl (by kernel_rfl) (by kernel_rfl) (by kernel_rfl) (fun _ _ _ h => h) (.inl ⟨by rfl, ?_⟩) (by assumption) ?_
    rotate_left 1
    · intro w0 hSw
      go_simp <;> with_reducible rfl
    try simp only [Act.put, List.getElem_toArray, List.getElem_cons_zero, List.getElem_cons_succ, List.setIfInBounds_toArray, List.set_cons_zero, List.set_cons_succ]
    refine wpAnyH_take (i := 9) (v := ?_) rfl (by kernel_rfl) (by kernel_rfl) (by kernel_rfl) (fun _ _ _ h => h) (.inl ⟨by rfl, ?_⟩) (by assumption) ?_
    rotate_left 1
    · intro w0 hSw
      go_simp <;> with_reducible rfl
    try simp only [Act.put, List.getElem_toArray, List.getElem_cons_zero, List.getElem_cons_succ, List.setIfInBounds_toArray, List.set_cons_zero, List.set_cons_succ]
    refine wpAnyH_done (by kernel_rfl) ?_ 0
    go_wp2_with fail
    go_ret2
    refine ⟨by cases ib <;> rfl, ?_⟩
    exact HW.out.trans (Below.drewN (Below.refl _ _) _)
  · skip
    have hd : decide (ce ≠ 0) = true := by simp [hc]
    rw [hd]
    have hcb : (ce == 0) = false := by simp [hc]
    clear hd hc
    go_enter Tryd.func57, Tryd.ntmps57
    go_wp2_with fail
    refine (HV.out _).mono ?_
    rintro e w1 ⟨rfl, rfl⟩
    go_wp2_with fail
    refine wp_region_held_drew (S := fun W => W.cell? ⟨w.heap.size, 0, none⟩ = some (.bool ib)) (by kernel_rfl) (HC0.out) (fun hHeld => ?_)
    refine wpAnyH_take (i := 0) (v := ?_) rfl (by kernel_rfl) (by kernel_rfl) (by kernel_rfl) (fun _ _ _ h => h) (.inl ⟨by rfl, ?_⟩) (by assumption) ?_
    rotate_left 1
    · intro w0 hSw
      go_simp <;> with_reducible rfl
    try simp only [Act.put, List.getElem_toArray, List.getElem_cons_zero, List.setIfInBounds_toArray, List.set_cons_zero, List.set_cons_succ]
    refine wpAnyH_take (i := 1) (v := ?_) rfl (by kernel_rfl) (by kernel_rfl) (by kernel_rfl) (fun _ _ _ h => h) (.inl ⟨by rfl, ?_⟩) (by assumption) ?_
    rotate_left 1
    · intro w0 hSw
      go_simp <;> with_reducible rfl
    try simp only [Act.put, List.getElem_toArray, List.getElem_cons_zero, List.getElem_cons_succ, List.setIfInBounds_toArray, List.set_cons_zero, List.set_cons_succ]
    refine wpAnyH_take (i := 2) (v := ?_) rfl (by kernel_rfl) (by kernel_rfl) (by kernel_rfl) (fun _ _ _ h => h) (.inl ⟨by rfl, ?_⟩) (by assumption) ?_
    rotate_left 1
    · intro w0 hSw
      go_simp <;> with_reducible rfl
    try simp only [Act.put, List.getElem_toArray, List.getElem_cons_zero, List.getElem_cons_succ, List.setIfInBounds_toArray, List.set_cons_zero, List.set_cons_succ]
    refine wpAnyH_take (i := 3) (v := ?_) rfl (by kernel_rfl) (by kernel_rfl) (by kernel_rfl) (fun _ _ _ h => h) (.inl ⟨by rfl, ?_⟩) (by assumption) ?_
    rotate_left 1
    · intro w0 hSw
      go_simp <;> with_reducible rfl
    try simp only [Act.put, List.getElem_toArray, List.getElem_cons_zero, List.getElem_cons_succ, List.setIfInBounds_toArray, List.set_cons_zero, List.set_cons_succ]
    refine wpAnyH_take (i := 4) (v := undef) rfl (by kernel_rfl) (by kernel_rfl) (by kernel_rfl) (fun _ _ _ h => h) (.inr ⟨by rfl, rfl⟩) (by assumption) ?_
    try simp only [Act.put, List.getElem_toArray, List.getElem_cons_zero, List.getElem_cons_succ, List.setIfInBounds_toArray, List.set_cons_zero, List.set_cons_succ]
    refine wpAnyH_take (i := 5) (v := undef) rfl (by kernel_rfl) (by kernel_rfl) (by kernel_rfl) (fun _ _ _ h => h) (.inr ⟨by rfl, rfl⟩) (by assumption) ?_
    try simp only [Act.put, List.getElem_toArray, List.getElem_cons_zero, List.getElem_cons_succ, List.setIfInBounds_toArray, List.set_cons_zero, List.set_cons_succ]
    refine wpAnyH_take (i := 6) (v := undef) rfl (by kernel_rfl) (by kernel_rfl) (by kernel_rfl) (fun _ _ _ h => h) (.inr ⟨by rfl, rfl⟩) (by assumption) ?_
    try simp only [Act.put, List.getElem_toArray, List.getElem_cons_zero, List.getElem_cons_succ, List.setIfInBounds_toArray, List.set_cons_zero, List.set_cons_succ]
    refine wpAnyH_take (i := 7) (v := ?_) rfl (by kernel_rfl) (by kernel_rfl) (by kernel_rfl) (fun _ _ _ h => h) (.inl ⟨by rfl, ?_⟩) (by assumption) ?_
    rotate_left 1
    · intro w0 hSw
      go_simp <;> with_reducible rfl
    try simp only [Act.put, List.getElem_toArray, List.getElem_cons_zero, List.getElem_cons_succ, List.setIfInBounds_toArray, List.set_cons_zero, List.set_cons_succ]
    refine wpAnyH_take (i := 8) (v := ?_) rfl (by kernel_rfl) (by kernel_rfl) (by kernel_rfl) (fun _ _ _ h => h) (.inl ⟨by rfl, ?_⟩) (by assumption) ?_
    rotate_left 1
    · intro w0 hSw
      go_simp <;> with_reducible rfl
    try simp only [Act.put, List.getElem_toArray, List.getElem_cons_zero, List.getElem_cons_succ, List.setIfInBounds_toArray, List.set_cons_zero, List.set_cons_succ]
    refine wpAnyH_take (i := 9) (v := ?_) rfl (by kernel_rfl) (by kernel_rfl) (by kernel_rfl) (fun _ _ _ h => h) (.inl ⟨by rfl, ?_⟩) (by assumption) ?_
    rotate_left 1
    · intro w0 hSw
      go_simp <;> with_reducible rfl
    try simp only [Act.put, List.getElem_toArray, List.getElem_cons_zero, List.getElem_cons_succ, List.setIfInBounds_toArray, List.set_cons_zero, List.set_cons_succ]
    refine wpAnyH_done (by kernel_rfl) ?_ 0
    go_wp2_with fail
    go_ret2
    refine ⟨by cases ib <;> rfl, ?_⟩
    exact HW.out.trans (Below.drewN (Below.refl _ _) _)
end Go.Proofs.YtfbopnebfdkhdaaDoor
/- Contracts of pharosref08.Same of like rows, and of pharosref13's textsOf and flat. -/
namespace Go.Proofs.YtfbopnebfdkhdaaDoor
open Go.RowKit Go.Shelf Go.Lib
attribute [local go_sem] Oper.semAt_some

theorem txsL_all {l : List Item} (h : ∀ y ∈ l, y.isList = false) : txsL l = l.map txtB := by
  induction l with
  | nil => rfl
  | cons x r ih => rw [txsL, h x (by simp), ih (fun y hy => h y (List.mem_cons_of_mem _ hy))]; rfl
theorem Strs.open {w : World} {p : Option Addr} {n c : Nat} {xs : List ByteArray} (h : Strs w (.slice p n c) xs) {k : Nat} {x : ByteArray} (hx : xs[k]? = some x) : ∃ bk o, p = some ⟨bk, o, none⟩ ∧ bk < w.heap.size ∧ w.cell? ⟨bk, o + k, none⟩ = some (.string x) := by
  obtain ⟨p', c', hv, _, h⟩ := h
  cases hv
  rcases h with h | ⟨bk, o, h1, h2, h3⟩
  · rw [h] at hx; cases hx
  · exact ⟨bk, o, h1, h2, h3 k x hx⟩
set_option maxRecDepth 100000 in
set_option maxHeartbeats 3200000 in
theorem same8_any (v v' : Value) (xs : List ByteArray) (w : World) (hv : Strs w v xs) (hv' : Strs w v' xs) (hN : xs.length ≤ 1099511627776) : Calls Tryd.prog 60 #[v, v'] w fun e w' => e = .returned (.bool true) ∧ Below w.heap.size w w' := by
  obtain ⟨p, c, rfl, -⟩ := id hv
  obtain ⟨p', c', rfl, -⟩ := id hv'
  obtain ⟨n, hn⟩ : ∃ n, xs.length = n := ⟨_, rfl⟩
  rw [hn] at hv hv' hN ⊢
  have HV := Lib.hid hv
  have HV' := Lib.hid hv'
  have HN := Lib.hid hn
  clear hv hv' hn
  go_enter Tryd.func60, Tryd.ntmps60
  go_wp2_with fail
  go_loopw [5] (fun i wr => ∃ k : Nat, k ≤ n ∧ i = .int .i64 k ∧ Aside (Below w.heap.size w wr)) (fun i _ => n - (RowKit.intOf i).toNat)
  case atStart => exact ⟨0, Nat.zero_le _, rfl, Below.refl _ _⟩
  case round =>
    obtain ⟨k, hk, rfl, HB⟩ := hrel
    by_cases hlt : k < n
    · obtain ⟨x, hx⟩ : ∃ x, xs[k]? = some x := ⟨_, List.getElem?_eq_getElem (by rw [HN.out]; exact hlt)⟩
      obtain ⟨bk, o, rfl, hbk, hc1⟩ := HV.out.open hx
      obtain ⟨bk', o', rfl, hbk', hc2⟩ := HV'.out.open hx
      have c1 : wr.cell? ⟨bk, o + k, none⟩ = some (.string x) := (HB.out.cell (p := ⟨bk, o + k, none⟩) hbk).trans hc1
      have c2 : wr.cell? ⟨bk', o' + k, none⟩ = some (.string x) := (HB.out.cell (p := ⟨bk', o' + k, none⟩) hbk').trans hc2
      have hS : wr.cell? ⟨bk, o + k, none⟩ = some (.string x) ∧ wr.cell? ⟨bk', o' + k, none⟩ = some (.string x) := ⟨c1, c2⟩
      have HS := Lib.hid hS
      have g1 : (0 : Int) ≤ k := by omega
      have g2 : (k : Int) < n := by omega
      clear hx hc1 hc2 c1 c2 hS hbk hbk'
      go_wp2_with fail
      refine wp_region_held_drew (S := fun W => W.cell? ⟨bk, o + k, none⟩ = some (.string x) ∧ W.cell? ⟨bk', o' + k, none⟩ = some (.string x)) (by kernel_rfl) (HS.out) (fun hHeld => ?_)
      refine wpAnyH_take (i := 0) (v := ?_) rfl (by kernel_rfl) (by kernel_rfl) (by kernel_rfl) (fun _ _ _ h => h) (.inl ⟨by rfl, ?_⟩) (by assumption) ?_
      rotate_left 1
      · intro w0 hSw
        go_simp <;> with_reducible rfl
      try simp only [Act.put, List.getElem_toArray, List.getElem_cons_zero, List.setIfInBounds_toArray, List.set_cons_zero, List.set_cons_succ]
      refine wpAnyH_take (i := 1) (v := ?_) rfl (by kernel_rfl) (by kernel_rfl) (by kernel_rfl) (fun _ _ _ h => h) (.inl ⟨by rfl, ?_⟩) (by assumption) ?_
      rotate_left 1
      · intro w0 hSw
        go_simp <;> with_reducible rfl
      try simp only [Act.put, List.getElem_toArray, List.getElem_cons_zero, List.getElem_cons_succ, List.setIfInBounds_toArray, List.set_cons_zero, List.set_cons_succ]
      refine wpAnyH_take (i := 2) (v := ?_) rfl (by kernel_rfl) (by kernel_rfl) (by kernel_rfl) (fun _ _ _ h => h) (.inl ⟨by rfl, ?_⟩) (by assumption) ?_
      rotate_left 1
      · intro w0 hSw
        go_simp <;> with_reducible rfl
      try simp only [Act.put, List.getElem_toArray, List.getElem_cons_zero, List.getElem_cons_succ, List.setIfInBounds_toArray, List.set_cons_zero, List.set_cons_succ]
      refine wpAnyH_take (i := 3) (v := ?_) rfl (by kernel_rfl) (by kernel_rfl) (by kernel_rfl) (fun _ _ _ h => h) (.inl ⟨by rfl, ?_⟩) (by assumption) ?_
      rotate_left 1
      · intro w0 hSw
        obtain ⟨z0, z1⟩ := hSw
        go_simp <;> with_reducible rfl
      try simp only [Act.put, List.getElem_toArray, List.getElem_cons_zero, List.getElem_cons_succ, List.setIfInBounds_toArray, List.set_cons_zero, List.set_cons_succ]
      refine wpAnyH_take (i := 4) (v := ?_) rfl (by kernel_rfl) (by kernel_rfl) (by kernel_rfl) (fun _ _ _ h => h) (.inl ⟨by rfl, ?_⟩) (by assumption) ?_
      rotate_left 1
      · intro w0 hSw
        go_simp <;> with_reducible rfl
      try simp only [Act.put, List.getElem_toArray, List.getElem_cons_zero, List.getElem_cons_succ, List.setIfInBounds_toArray, List.set_cons_zero, List.set_cons_succ]
      refine wpAnyH_take (i := 5) (v := ?_) rfl (by kernel_rfl) (by kernel_rfl) (by kernel_rfl) (fun _ _ _ h => h) (.inl ⟨by rfl, ?_⟩) (by assumption) ?_
      rotate_left 1
      · intro w0 hSw
        go_simp <;> with_reducible rfl
      try simp only [Act.put, List.getElem_toArray, List.getElem_cons_zero, List.getElem_cons_succ, List.setIfInBounds_toArray, List.set_cons_zero, List.set_cons_succ]
      refine wpAnyH_take (i := 6) (v := ?_) rfl (by kernel_rfl) (by kernel_rfl) (by kernel_rfl) (fun _ _ _ h => h) (.inl ⟨by rfl, ?_⟩) (by assumption) ?_
      rotate_left 1
      · intro w0 hSw
        go_simp <;> with_reducible rfl
      try simp only [Act.put, List.getElem_toArray, List.getElem_cons_zero, List.getElem_cons_succ, List.setIfInBounds_toArray, List.set_cons_zero, List.set_cons_succ]
      refine wpAnyH_take (i := 7) (v := ?_) rfl (by kernel_rfl) (by kernel_rfl) (by kernel_rfl) (fun _ _ _ h => h) (.inl ⟨by rfl, ?_⟩) (by assumption) ?_
      rotate_left 1
      · intro w0 hSw
        obtain ⟨z0, z1⟩ := hSw
        go_simp <;> with_reducible rfl
      try simp only [Act.put, List.getElem_toArray, List.getElem_cons_zero, List.getElem_cons_succ, List.setIfInBounds_toArray, List.set_cons_zero, List.set_cons_succ]
      refine wpAnyH_take (i := 8) (v := ?_) rfl (by kernel_rfl) (by kernel_rfl) (by kernel_rfl) (fun _ _ _ h => h) (.inl ⟨by rfl, ?_⟩) (by assumption) ?_
      rotate_left 1
      · intro w0 hSw
        go_simp <;> with_reducible rfl
      try simp only [Act.put, List.getElem_toArray, List.getElem_cons_zero, List.getElem_cons_succ, List.setIfInBounds_toArray, List.set_cons_zero, List.set_cons_succ]
      refine wpAnyH_done (by kernel_rfl) ?_ 0
      go_wp2_with fail
      go_roundw
      case rel => exact ⟨k + 1, by omega, by go_num, HB.out.trans (Below.drewN (Below.refl _ _) _)⟩
      case measure => simp [RowKit.intOf]; omega
    · obtain rfl : k = n := by omega
      go_wp2_with fail
      go_ret
      exact ⟨rfl, HB.out⟩
theorem OwnS.allocQ {base : Nat} {w : World} {v : Value} {l : List ByteArray} (h : OwnS base w v l) (o : Obj) : OwnS base (w.alloc o) v l := h.of_block (fun k e => Below.heap_alloc _ _ _ (h.lt k e).2)
theorem cells_three {w W : World} {v0 v1 v2 : Value} {t : TypeId} (hb : Below (w.alloc (.cells #[v0, v1, v2] t)).heap.size (w.alloc (.cells #[v0, v1, v2] t)) W) : W.cell? ⟨w.heap.size, 0, none⟩ = some v0 ∧ W.cell? ⟨w.heap.size, 1, none⟩ = some v1 ∧ W.cell? ⟨w.heap.size, 2, none⟩ = some v2 := by
  have hc := cells_at w [v0, v1, v2] t
  exact ⟨(hb.cell (p := ⟨w.heap.size, 0, none⟩) (by simp)).trans (hc 0 _ rfl), (hb.cell (p := ⟨w.heap.size, 1, none⟩) (by simp)).trans (hc 1 _ rfl), (hb.cell (p := ⟨w.heap.size, 2, none⟩) (by simp)).trans (hc 2 _ rfl)⟩
theorem txsL_split (l : List Item) : (txsB l = false ∧ txsL l = l.map txtB ∧ ∀ y ∈ l, y.isList = false) ∨ (txsB l = true ∧ ∃ y ∈ l, y.isList = true) := by
  cases h : txsB l with
  | true =>
    right
    unfold txsB at h
    obtain ⟨y, h1, h2⟩ := List.any_eq_true.1 h
    exact ⟨rfl, y, h1, h2⟩
  | false =>
    left
    unfold txsB at h
    have hn : ∀ y ∈ l, y.isList = false := fun y hy => by simpa using List.any_eq_false.1 h y hy
    exact ⟨rfl, (txsL_all hn), hn⟩
set_option maxRecDepth 100000 in
set_option maxHeartbeats 6400000 in
theorem textsOf_any (x : Item) (p : Option Addr) (c : Nat) (w : World) (hr : Reads w w.heap.size (.slice p x.list.length c) x.list) (hl : x.list.length ≤ 1099511627775) : Calls Tryd.prog 54 #[.agg #[.bool x.isList, .string (txtB x), .slice p x.list.length c]] w fun e w' =>
    ((txsB x.list = true ∧ e = .returned (.tuple #[.slice none 0 0, .bool false])) ∨ (txsB x.list = false ∧ ∃ p c, e = .returned (.tuple #[.slice p (txsL x.list).length c, .bool x.isList]) ∧ Strs w' (.slice p (txsL x.list).length c) (txsL x.list) ∧ ∀ j, (Value.slice p (txsL x.list).length c).ownBlock = some j → w.heap.size ≤ j)) ∧ Below w.heap.size w w' := by
  have HR := Lib.hid hr
  obtain ⟨l, hxl⟩ : ∃ l, x.list = l := ⟨_, rfl⟩
  rw [hxl] at HR hl ⊢
  obtain ⟨n, hn⟩ : ∃ n, l.length = n := ⟨_, rfl⟩
  rw [hn] at HR hl ⊢
  obtain ⟨ib, hib⟩ : ∃ v, x.isList = v := ⟨_, rfl⟩
  obtain ⟨tx, htx⟩ : ∃ v, txtB x = v := ⟨_, rfl⟩
  rw [hib, htx]
  have HN := Lib.hid hn
  have HB0 := Lib.hid (laid1 w (.cells #[.bool ib, .string tx, .slice p n c] 80))
  have HTX := Lib.hid (txsL_split l)
  clear hr hxl hn hib htx
  go_enter Tryd.func54, Tryd.ntmps54
  go_wp2_with fail
  obtain ⟨w0, hw0⟩ : ∃ w0, w.alloc (.cells #[.bool ib, .string tx, .slice p n c] 80) = w0 := ⟨_, rfl⟩
  have hz0 : w.heap.size + 1 ≤ w0.heap.size := by rw [← hw0]; simp
  have HZ := Lib.hid (fun W (hb : Below w0.heap.size w0 W) => cells_three (w := w) (W := W) (v0 := .bool ib) (v1 := .string tx) (v2 := .slice p n c) (t := 80) (by rw [hw0]; exact hb))
  rw [hw0] at HB0 ⊢
  clear hw0
  go_loopw [2, 3, 4, 5] (fun r2 r3 v i wr => r2 = .slice none 0 0 ∧ r3 = .bool false ∧ ∃ k : Nat, k ≤ n ∧ i = .int .i64 k ∧ Aside (∀ j y, j < k → l[j]? = some y → y.isList = false) ∧ Aside (OwnS w0.heap.size wr v ((l.take k).map txtB)) ∧ Aside (Below w0.heap.size w0 wr)) (fun _ _ _ i _ => n - (RowKit.intOf i).toNat)
  case atStart => exact ⟨rfl, rfl, 0, Nat.zero_le _, rfl, fun j y h => by omega, OwnS.nil _ _, Below.refl _ _⟩
  case round =>
    obtain ⟨rfl, rfl, k, hk, rfl, HF, HO, HB⟩ := hrel
    obtain ⟨z0, z1, z2⟩ := HZ.out wr HB.out
    by_cases hlt : k < n
    · obtain ⟨y, hy⟩ : ∃ y, l[k]? = some y := ⟨_, List.getElem?_eq_getElem (by rw [HN.out]; exact hlt)⟩
      obtain ⟨hnn, g, o, rfl, hg, hat⟩ := Reads.at HR.out (by omega)
      clear hnn
      obtain ⟨h0, h1, _⟩ := hat k y hy
      have hbw : Below w.heap.size w wr := HB0.out.trans (HB.out.mono (by omega))
      have c0 : wr.cell? ⟨g, o + k * 3, none⟩ = some (.bool y.isList) := (hbw.cell (p := ⟨g, o + k * 3, none⟩) hg).trans h0
      have c1 : wr.cell? ⟨g, o + k * 3 + 1, none⟩ = some (.string (txtB y)) := (hbw.cell (p := ⟨g, o + k * 3 + 1, none⟩) hg).trans h1
      have g1 : (0 : Int) ≤ k := by omega
      have g2 : (k : Int) < n := by omega
      have HY := Lib.hid hy
      have hf := HF.out
      have ho := HO.out
      have hb := HB.out
      clear hat h0 h1 hbw hy z1
      cases hyl : y.isList with
      | true =>
        rw [hyl] at c0
        have HYL := Lib.hid hyl
        have hbx : Below w.heap.size w wr := HB0.out.trans (hb.mono (by omega))
        have HBX := Lib.hid hbx
        clear hyl hf ho hb HF HO HB hbx
        go_wp2_with fail
        go_ret2
        refine ⟨.inl ⟨?_, rfl⟩, HBX.out⟩
        rcases HTX.out with ⟨h1, _, h3⟩ | ⟨h1, _⟩
        · have := h3 y (List.mem_of_getElem? HY.out)
          rw [HYL.out] at this; cases this
        · exact h1
      | false =>
        rw [hyl] at c0
        have hts : (l.take (k + 1)).map txtB = (l.take k).map txtB ++ [txtB y] := by rw [List.take_add_one, HY.out]; simp
        have hll : ((l.take k).map txtB).length = k := by rw [List.length_map, List.length_take, HN.out]; omega
        obtain ⟨L, hL⟩ : ∃ L, (l.take k).map txtB = L := ⟨_, rfl⟩
        rw [hL] at hts hll ho
        obtain ⟨pv, cv, hv⟩ := ho.form
        rw [hll] at hv
        subst hv
        have hf2 : ∀ j z, j < k + 1 → l[j]? = some z → z.isList = false := fun j z hj hz => by
          by_cases h : j = k
          · subst h; rw [HY.out] at hz; cases hz; exact hyl
          · exact hf j z (by omega) hz
        have HF2 := Lib.hid hf2
        have HTS := Lib.hid hts
        have HLL := Lib.hid hll
        have HO1 := Lib.hid ho
        have HB1 := Lib.hid hb
        clear hyl hf ho hb HF HO HB hts hll hL hf2
        go_wp2_with (at_builtin; refine wpList_appendT rfl _ _ 30 rfl w0.heap.size Tryd.underlying30 infoStr _ L rfl (HO1.out.allocQ _) ⟨wr.heap.size, 0, none⟩ 1 (txtB y) rfl ?d0 ?d1 ?d2 ?_)
        case d0 => exact cells_new wr [.string (txtB y)] _ 0 _ rfl
        case d1 => rw [HLL.out]; omega
        case d2 => have := HB1.out.size; simp; omega
        intro v3 w3 ho3 hg3
        have hb3 : Below w0.heap.size w0 w3 := (HB1.out.alloc HB1.out.size _).grown hg3 (by have := HB1.out.size; simp; omega) (fun r e => (HO1.out.lt r e).1)
        rw [← HTS.out] at ho3
        have HO3 := Lib.hid ho3
        have HB3 := Lib.hid hb3
        clear ho3 hg3 hb3 HO1 HB1 c0 c1
        go_wp2_with fail
        go_roundw
        case rel => exact ⟨rfl, rfl, k + 1, by omega, by go_num, HF2.out, HO3.out, HB3.out⟩
        case measure => simp [RowKit.intOf]; omega
    · obtain rfl : k = n := by omega
      have ho := HO.out
      have hb := HB.out
      have hbx : Below w.heap.size w wr := HB0.out.trans (hb.mono (by omega))
      rw [List.take_of_length_le (by rw [HN.out]; omega)] at ho
      obtain ⟨pv, cv, hv⟩ := ho.form
      have hlm : (l.map txtB).length = k := by rw [List.length_map, HN.out]
      rw [hlm] at hv
      subst hv
      have hall : txsB l = false ∧ txsL l = l.map txtB := by
        rcases HTX.out with ⟨h1, h2, _⟩ | ⟨_, y, h2, h3⟩
        · exact ⟨h1, h2⟩
        · obtain ⟨j, hj⟩ := List.getElem?_of_mem h2
          have := HF.out j y (by have := (List.getElem?_eq_some_iff.1 hj).1; rw [HN.out] at this; exact this) hj
          rw [h3] at this; cases this
      have HA := Lib.hid hall
      have HST := Lib.hid ho.strs
      have hov := fun j e => (ho.lt j e).1
      have HOV := Lib.hid hov
      clear hov
      have HBX := Lib.hid hbx
      have HLM := Lib.hid hlm
      have HZ0 := Lib.hid z0
      clear ho hb HF HO HB hbx hlm hall z1 z0
      go_wp2_with fail
      refine wp_region_held_drew (S := fun W => W.cell? ⟨w.heap.size, 0, none⟩ = some (.bool ib)) (by kernel_rfl) (HZ0.out) (fun hHeld => ?_)
      refine wpAnyH_take (i := 0) (v := ?_) rfl (by kernel_rfl) (by kernel_rfl) (by kernel_rfl) (fun _ _ _ h => h) (.inl ⟨by rfl, ?_⟩) (by assumption) ?_
      rotate_left 1
      · intro w0 hSw
        go_simp <;> with_reducible rfl
      try simp only [Act.put, List.getElem_toArray, List.getElem_cons_zero, List.setIfInBounds_toArray, List.set_cons_zero, List.set_cons_succ]
      refine wpAnyH_take (i := 1) (v := ?_) rfl (by kernel_rfl) (by kernel_rfl) (by kernel_rfl) (fun _ _ _ h => h) (.inl ⟨by rfl, ?_⟩) (by assumption) ?_
      rotate_left 1
      · intro w0 hSw
        go_simp <;> with_reducible rfl
      try simp only [Act.put, List.getElem_toArray, List.getElem_cons_zero, List.getElem_cons_succ, List.setIfInBounds_toArray, List.set_cons_zero, List.set_cons_succ]
      refine wpAnyH_take (i := 2) (v := ?_) rfl (by kernel_rfl) (by kernel_rfl) (by kernel_rfl) (fun _ _ _ h => h) (.inl ⟨by rfl, ?_⟩) (by assumption) ?_
      rotate_left 1
      · intro w0 hSw
        go_simp <;> with_reducible rfl
      try simp only [Act.put, List.getElem_toArray, List.getElem_cons_zero, List.getElem_cons_succ, List.setIfInBounds_toArray, List.set_cons_zero, List.set_cons_succ]
      refine wpAnyH_take (i := 3) (v := ?_) rfl (by kernel_rfl) (by kernel_rfl) (by kernel_rfl) (fun _ _ _ h => h) (.inl ⟨by rfl, ?_⟩) (by assumption) ?_
      rotate_left 1
      · intro w0 hSw
        go_simp <;> with_reducible rfl
      try simp only [Act.put, List.getElem_toArray, List.getElem_cons_zero, List.getElem_cons_succ, List.setIfInBounds_toArray, List.set_cons_zero, List.set_cons_succ]
      refine wpAnyH_take (i := 4) (v := ?_) rfl (by kernel_rfl) (by kernel_rfl) (by kernel_rfl) (fun _ _ _ h => h) (.inl ⟨by rfl, ?_⟩) (by assumption) ?_
      rotate_left 1
      · intro w0 hSw
        go_simp <;> with_reducible rfl
      try simp only [Act.put, List.getElem_toArray, List.getElem_cons_zero, List.getElem_cons_succ, List.setIfInBounds_toArray, List.set_cons_zero, List.set_cons_succ]
      refine wpAnyH_done (by kernel_rfl) ?_ 0
      go_wp2_with fail
      go_ret2
      refine ⟨.inr ⟨HA.out.1, pv, cv, ?_, ?_, ?_⟩, HBX.out.trans (Below.drewN (Below.refl _ _) _)⟩
      · rw [HA.out.2, HLM.out]
        rfl
      · rw [HA.out.2, HLM.out]
        exact HST.out.below (Below.drewN (Below.refl _ _) _)
      · rw [HA.out.2, HLM.out]
        intro j e
        have := HOV.out j e
        omega
set_option maxRecDepth 100000 in
set_option maxHeartbeats 3200000 in
theorem flat_any (x : Item) (p : Option Addr) (c : Nat) (w : World) (hr : Reads w w.heap.size (.slice p x.list.length c) x.list) (hl : x.list.length ≤ 1099511627775) : Calls Tryd.prog 94 #[.agg #[.bool x.isList, .string (txtB x), .slice p x.list.length c]] w fun e w' =>
    e = .returned (.bool (!(txsB x.list) && x.isList)) ∧ Below w.heap.size w w' := by
  have hb0 := laid1 w (.cells #[.bool x.isList, .string (txtB x), .slice p x.list.length c] 80)
  have H := Lib.hid (textsOf_any x p c _ (hr.below hb0 hb0.size) hl)
  obtain ⟨q, hq⟩ : ∃ q, x.list.length = q := ⟨_, rfl⟩
  have HB0 := Lib.hid hb0
  rw [hq] at H HB0 ⊢
  clear hr hl hb0 hq
  go_enter Tryd.func94, Tryd.ntmps94
  go_wp2_with fail
  refine H.out.mono ?_
  rintro e w1 ⟨(⟨h1, rfl⟩ | ⟨h1, p2, c2, rfl, _, _⟩), hb⟩
  · go_wp2_with fail
    go_ret
    exact ⟨by rw [h1]; rfl, HB0.out.trans (hb.mono HB0.out.size)⟩
  · go_wp2_with fail
    go_ret
    exact ⟨by rw [h1]; simp, HB0.out.trans (hb.mono HB0.out.size)⟩
end Go.Proofs.YtfbopnebfdkhdaaDoor
/- Contracts of pharosref13's SameLight, SameCommittee, SameBoot, SameUpdate where both are alike. -/
namespace Go.Proofs.YtfbopnebfdkhdaaDoor
open Go.RowKit Go.Shelf Go.Lib
attribute [local go_sem] Oper.semAt_some

set_option maxRecDepth 100000 in
set_option maxHeartbeats 6400000 in
theorem sameLight_any (n m k : Nat) (a b cc d e : ByteArray) (p p' : Option Addr) (l c c' : Nat) (t : List ByteArray) (w : World) (h : Strs w (.slice p l c) t) (h' : Strs w (.slice p' l c') t) (hl : l ≤ 1099511627776) : Calls Tryd.prog 58 #[.agg #[.int .u64 n, .int .u64 m, .string a, .string b, .string cc, .string d, .string e, .int .u64 k, .slice p l c], .agg #[.int .u64 n, .int .u64 m, .string a, .string b, .string cc, .string d, .string e, .int .u64 k, .slice p' l c']] w fun e w' => e = .returned (.bool true) ∧ Below w.heap.size w w' := by
  obtain ⟨w0, hw0⟩ : ∃ W, (w.alloc (.cells #[.int .u64 n, .int .u64 m, .string a, .string b, .string cc, .string d, .string e, .int .u64 k, .slice p l c] 37)).alloc (.cells #[.int .u64 n, .int .u64 m, .string a, .string b, .string cc, .string d, .string e, .int .u64 k, .slice p' l c'] 37) = W := ⟨_, rfl⟩
  have hb0 : Below w.heap.size w w0 := by rw [← hw0]; exact ((Below.refl _ _).alloc (Nat.le_refl _) _).alloc (by simp) _
  have HF := Lib.hid (show ∀ W, Below w0.heap.size w0 W → HasCells W w.heap.size [.int .u64 n, .int .u64 m, .string a, .string b, .string cc, .string d, .string e, .int .u64 k, .slice p l c] 37 ∧ HasCells W (w.heap.size + 1) [.int .u64 n, .int .u64 m, .string a, .string b, .string cc, .string d, .string e, .int .u64 k, .slice p' l c'] 37 from fun W hb => by
    have h1 : HasCells w0 w.heap.size [.int .u64 n, .int .u64 m, .string a, .string b, .string cc, .string d, .string e, .int .u64 k, .slice p l c] 37 := by
      rw [← hw0]
      exact (Below.heap_alloc _ _ _ (by simp)).trans (HasCells.new w [.int .u64 n, .int .u64 m, .string a, .string b, .string cc, .string d, .string e, .int .u64 k, .slice p l c] 37)
    have h2 : HasCells w0 (w.heap.size + 1) [.int .u64 n, .int .u64 m, .string a, .string b, .string cc, .string d, .string e, .int .u64 k, .slice p' l c'] 37 := by
      rw [← hw0]
      have := HasCells.new (w.alloc (.cells #[.int .u64 n, .int .u64 m, .string a, .string b, .string cc, .string d, .string e, .int .u64 k, .slice p l c] 37)) [.int .u64 n, .int .u64 m, .string a, .string b, .string cc, .string d, .string e, .int .u64 k, .slice p' l c'] 37
      rwa [World.size_alloc] at this
    exact ⟨(hb.block _ h1.lt).trans h1, (hb.block _ h2.lt).trans h2⟩)
  have HB0 := Lib.hid hb0
  have HW0 := Lib.hid hw0
  have H := Lib.hid h
  have H' := Lib.hid h'
  clear hw0 hb0 h h'
  go_enter Tryd.func58, Tryd.ntmps58
  go_wp2_with fail
  rw [show (w.alloc (.cells #[.int .u64 n, .int .u64 m, .string a, .string b, .string cc, .string d, .string e, .int .u64 k, .slice p l c] 37)).alloc (.cells #[.int .u64 n, .int .u64 m, .string a, .string b, .string cc, .string d, .string e, .int .u64 k, .slice p' l c'] 37) = w0 from HW0.out]
  have hlt : l = t.length := by
    obtain ⟨_, _, hv, _⟩ := H.out
    cases hv
    rfl
  refine (same8_any _ _ t w0 (H.out.below HB0.out) (H'.out.below HB0.out) (by rw [← hlt]; exact hl)).mono ?_
  rintro e w1 ⟨rfl, hb⟩
  clear hlt
  go_wp2_with fail
  go_ret
  exact ⟨rfl, HB0.out.trans (hb.mono HB0.out.size)⟩
set_option maxRecDepth 100000 in
set_option maxHeartbeats 6400000 in
theorem sameComm_any (s : ByteArray) (p p' : Option Addr) (l c c' : Nat) (t : List ByteArray) (w : World) (h : Strs w (.slice p l c) t) (h' : Strs w (.slice p' l c') t) (hl : l ≤ 1099511627776) : Calls Tryd.prog 59 #[.agg #[.slice p l c, .string s], .agg #[.slice p' l c', .string s]] w fun e w' => e = .returned (.bool true) ∧ Below w.heap.size w w' := by
  obtain ⟨w0, hw0⟩ : ∃ W, (w.alloc (.cells #[.slice p l c, .string s] 44)).alloc (.cells #[.slice p' l c', .string s] 44) = W := ⟨_, rfl⟩
  have hb0 : Below w.heap.size w w0 := by rw [← hw0]; exact ((Below.refl _ _).alloc (Nat.le_refl _) _).alloc (by simp) _
  have HF := Lib.hid (show ∀ W, Below w0.heap.size w0 W → HasCells W w.heap.size [.slice p l c, .string s] 44 ∧ HasCells W (w.heap.size + 1) [.slice p' l c', .string s] 44 from fun W hb => by
    have h1 : HasCells w0 w.heap.size [.slice p l c, .string s] 44 := by
      rw [← hw0]
      exact (Below.heap_alloc _ _ _ (by simp)).trans (HasCells.new w [.slice p l c, .string s] 44)
    have h2 : HasCells w0 (w.heap.size + 1) [.slice p' l c', .string s] 44 := by
      rw [← hw0]
      have := HasCells.new (w.alloc (.cells #[.slice p l c, .string s] 44)) [.slice p' l c', .string s] 44
      rwa [World.size_alloc] at this
    exact ⟨(hb.block _ h1.lt).trans h1, (hb.block _ h2.lt).trans h2⟩)
  have HB0 := Lib.hid hb0
  have HW0 := Lib.hid hw0
  have H := Lib.hid h
  have H' := Lib.hid h'
  clear hw0 hb0 h h'
  go_enter Tryd.func59, Tryd.ntmps59
  go_wp2_with fail
  rw [show (w.alloc (.cells #[.slice p l c, .string s] 44)).alloc (.cells #[.slice p' l c', .string s] 44) = w0 from HW0.out]
  have hlt : l = t.length := by
    obtain ⟨_, _, hv, _⟩ := H.out
    cases hv
    rfl
  refine (same8_any _ _ t w0 (H.out.below HB0.out) (H'.out.below HB0.out) (by rw [← hlt]; exact hl)).mono ?_
  rintro e w1 ⟨rfl, hb⟩
  clear hlt
  go_wp2_with fail
  go_ret
  exact ⟨rfl, HB0.out.trans (hb.mono HB0.out.size)⟩
set_option maxRecDepth 100000 in
set_option maxHeartbeats 6400000 in
theorem sameBoot_any (n0 m0 k0 : Nat) (a0 b0 cc0 d0 e0 : ByteArray) (p0 p0' : Option Addr) (l0 c0 c0' : Nat) (t0 : List ByteArray) (s1 : ByteArray) (p1 p1' : Option Addr) (l1 c1 c1' : Nat) (t1 : List ByteArray)  (p2 p2' : Option Addr) (l2 c2 c2' : Nat) (t2 : List ByteArray) (w : World) (h0 : Strs w (.slice p0 l0 c0) t0) (h0' : Strs w (.slice p0' l0 c0') t0) (hl0 : l0 ≤ 1099511627776) (h1 : Strs w (.slice p1 l1 c1) t1) (h1' : Strs w (.slice p1' l1 c1') t1) (hl1 : l1 ≤ 1099511627776) (h2 : Strs w (.slice p2 l2 c2) t2) (h2' : Strs w (.slice p2' l2 c2') t2) (hl2 : l2 ≤ 1099511627776) : Calls Tryd.prog 27 #[.agg #[.int .u64 n0, .int .u64 m0, .string a0, .string b0, .string cc0, .string d0, .string e0, .int .u64 k0, .slice p0 l0 c0, .slice p1 l1 c1, .string s1, .slice p2 l2 c2], .agg #[.int .u64 n0, .int .u64 m0, .string a0, .string b0, .string cc0, .string d0, .string e0, .int .u64 k0, .slice p0' l0 c0', .slice p1' l1 c1', .string s1, .slice p2' l2 c2']] w fun e w' => e = .returned (.bool true) ∧ Below w.heap.size w w' := by
  obtain ⟨w0, hw0⟩ : ∃ W, (w.alloc (.cells #[.int .u64 n0, .int .u64 m0, .string a0, .string b0, .string cc0, .string d0, .string e0, .int .u64 k0, .slice p0 l0 c0, .slice p1 l1 c1, .string s1, .slice p2 l2 c2] 48)).alloc (.cells #[.int .u64 n0, .int .u64 m0, .string a0, .string b0, .string cc0, .string d0, .string e0, .int .u64 k0, .slice p0' l0 c0', .slice p1' l1 c1', .string s1, .slice p2' l2 c2'] 48) = W := ⟨_, rfl⟩
  have hb0 : Below w.heap.size w w0 := by rw [← hw0]; exact ((Below.refl _ _).alloc (Nat.le_refl _) _).alloc (by simp) _
  have HF := Lib.hid (show ∀ W, Below w0.heap.size w0 W → HasCells W w.heap.size [.int .u64 n0, .int .u64 m0, .string a0, .string b0, .string cc0, .string d0, .string e0, .int .u64 k0, .slice p0 l0 c0, .slice p1 l1 c1, .string s1, .slice p2 l2 c2] 48 ∧ HasCells W (w.heap.size + 1) [.int .u64 n0, .int .u64 m0, .string a0, .string b0, .string cc0, .string d0, .string e0, .int .u64 k0, .slice p0' l0 c0', .slice p1' l1 c1', .string s1, .slice p2' l2 c2'] 48 from fun W hb => by
    have h1 : HasCells w0 w.heap.size [.int .u64 n0, .int .u64 m0, .string a0, .string b0, .string cc0, .string d0, .string e0, .int .u64 k0, .slice p0 l0 c0, .slice p1 l1 c1, .string s1, .slice p2 l2 c2] 48 := by
      rw [← hw0]
      exact (Below.heap_alloc _ _ _ (by simp)).trans (HasCells.new w [.int .u64 n0, .int .u64 m0, .string a0, .string b0, .string cc0, .string d0, .string e0, .int .u64 k0, .slice p0 l0 c0, .slice p1 l1 c1, .string s1, .slice p2 l2 c2] 48)
    have h2 : HasCells w0 (w.heap.size + 1) [.int .u64 n0, .int .u64 m0, .string a0, .string b0, .string cc0, .string d0, .string e0, .int .u64 k0, .slice p0' l0 c0', .slice p1' l1 c1', .string s1, .slice p2' l2 c2'] 48 := by
      rw [← hw0]
      have := HasCells.new (w.alloc (.cells #[.int .u64 n0, .int .u64 m0, .string a0, .string b0, .string cc0, .string d0, .string e0, .int .u64 k0, .slice p0 l0 c0, .slice p1 l1 c1, .string s1, .slice p2 l2 c2] 48)) [.int .u64 n0, .int .u64 m0, .string a0, .string b0, .string cc0, .string d0, .string e0, .int .u64 k0, .slice p0' l0 c0', .slice p1' l1 c1', .string s1, .slice p2' l2 c2'] 48
      rwa [World.size_alloc] at this
    exact ⟨(hb.block _ h1.lt).trans h1, (hb.block _ h2.lt).trans h2⟩)
  have HB0 := Lib.hid hb0
  have HW0 := Lib.hid hw0
  have H0 := Lib.hid h0
  have H0' := Lib.hid h0'
  have H1 := Lib.hid h1
  have H1' := Lib.hid h1'
  have H2 := Lib.hid h2
  have H2' := Lib.hid h2'
  clear hw0 hb0 h0 h0' h1 h1' h2 h2'
  have bz0 : Below w0.heap.size w0 w0 := Below.refl _ _
  go_enter Tryd.func27, Tryd.ntmps27
  go_wp2_with fail
  rw [show (w.alloc (.cells #[.int .u64 n0, .int .u64 m0, .string a0, .string b0, .string cc0, .string d0, .string e0, .int .u64 k0, .slice p0 l0 c0, .slice p1 l1 c1, .string s1, .slice p2 l2 c2] 48)).alloc (.cells #[.int .u64 n0, .int .u64 m0, .string a0, .string b0, .string cc0, .string d0, .string e0, .int .u64 k0, .slice p0' l0 c0', .slice p1' l1 c1', .string s1, .slice p2' l2 c2'] 48) = w0 from HW0.out]
  refine (sameLight_any _ _ _ _ _ _ _ _ _ _ _ _ _ _ w0 (H0.out.below (HB0.out.trans (bz0.mono HB0.out.size))) (H0'.out.below (HB0.out.trans (bz0.mono HB0.out.size))) hl0).mono ?_
  rintro e w1 ⟨rfl, hb⟩
  have bz1 := bz0.trans (hb.mono bz0.size)
  clear hb
  have qa9 := (HF.out w1 bz1).1.cell (j := 9) rfl
  have qb9 := (HF.out w1 bz1).2.cell (j := 9) rfl
  have qa10 := (HF.out w1 bz1).1.cell (j := 10) rfl
  have qb10 := (HF.out w1 bz1).2.cell (j := 10) rfl
  go_wp2_with fail
  refine (sameComm_any _ _ _ _ _ _ _ w1 (H1.out.below (HB0.out.trans (bz1.mono HB0.out.size))) (H1'.out.below (HB0.out.trans (bz1.mono HB0.out.size))) hl1).mono ?_
  rintro e w2 ⟨rfl, hb⟩
  have bz2 := bz1.trans (hb.mono bz1.size)
  clear hb qa9 qb9 qa10 qb10
  have qa11 := (HF.out w2 bz2).1.cell (j := 11) rfl
  have qb11 := (HF.out w2 bz2).2.cell (j := 11) rfl
  go_wp2_with fail
  have hlt2 : l2 = t2.length := by
    obtain ⟨_, _, hv, _⟩ := H2.out
    cases hv
    rfl
  refine (same8_any _ _ t2 w2 (H2.out.below (HB0.out.trans (bz2.mono HB0.out.size))) (H2'.out.below (HB0.out.trans (bz2.mono HB0.out.size))) (by rw [← hlt2]; exact hl2)).mono ?_
  clear hlt2
  rintro e w3 ⟨rfl, hb⟩
  have bz3 := bz2.trans (hb.mono bz2.size)
  clear hb qa11 qb11
  go_wp2_with fail
  go_ret
  exact ⟨rfl, HB0.out.trans (bz3.mono HB0.out.size)⟩
set_option maxRecDepth 100000 in
set_option maxHeartbeats 6400000 in
theorem sameUpd_any (n0 m0 k0 : Nat) (a0 b0 cc0 d0 e0 : ByteArray) (p0 p0' : Option Addr) (l0 c0 c0' : Nat) (t0 : List ByteArray) (s1 : ByteArray) (p1 p1' : Option Addr) (l1 c1 c1' : Nat) (t1 : List ByteArray)  (p2 p2' : Option Addr) (l2 c2 c2' : Nat) (t2 : List ByteArray) (n3 m3 k3 : Nat) (a3 b3 cc3 d3 e3 : ByteArray) (p3 p3' : Option Addr) (l3 c3 c3' : Nat) (t3 : List ByteArray)  (p4 p4' : Option Addr) (l4 c4 c4' : Nat) (t4 : List ByteArray) (n5 : Nat) (s6 : ByteArray) (n7 : Nat) (w : World) (h0 : Strs w (.slice p0 l0 c0) t0) (h0' : Strs w (.slice p0' l0 c0') t0) (hl0 : l0 ≤ 1099511627776) (h1 : Strs w (.slice p1 l1 c1) t1) (h1' : Strs w (.slice p1' l1 c1') t1) (hl1 : l1 ≤ 1099511627776) (h2 : Strs w (.slice p2 l2 c2) t2) (h2' : Strs w (.slice p2' l2 c2') t2) (hl2 : l2 ≤ 1099511627776) (h3 : Strs w (.slice p3 l3 c3) t3) (h3' : Strs w (.slice p3' l3 c3') t3) (hl3 : l3 ≤ 1099511627776) (h4 : Strs w (.slice p4 l4 c4) t4) (h4' : Strs w (.slice p4' l4 c4') t4) (hl4 : l4 ≤ 1099511627776)    : Calls Tryd.prog 28 #[.agg #[.int .u64 n0, .int .u64 m0, .string a0, .string b0, .string cc0, .string d0, .string e0, .int .u64 k0, .slice p0 l0 c0, .slice p1 l1 c1, .string s1, .slice p2 l2 c2, .int .u64 n3, .int .u64 m3, .string a3, .string b3, .string cc3, .string d3, .string e3, .int .u64 k3, .slice p3 l3 c3, .slice p4 l4 c4, .int .u64 n5, .string s6, .int .u64 n7], .agg #[.int .u64 n0, .int .u64 m0, .string a0, .string b0, .string cc0, .string d0, .string e0, .int .u64 k0, .slice p0' l0 c0', .slice p1' l1 c1', .string s1, .slice p2' l2 c2', .int .u64 n3, .int .u64 m3, .string a3, .string b3, .string cc3, .string d3, .string e3, .int .u64 k3, .slice p3' l3 c3', .slice p4' l4 c4', .int .u64 n5, .string s6, .int .u64 n7]] w fun e w' => e = .returned (.bool true) ∧ Below w.heap.size w w' := by
  obtain ⟨w0, hw0⟩ : ∃ W, (w.alloc (.cells #[.int .u64 n0, .int .u64 m0, .string a0, .string b0, .string cc0, .string d0, .string e0, .int .u64 k0, .slice p0 l0 c0, .slice p1 l1 c1, .string s1, .slice p2 l2 c2, .int .u64 n3, .int .u64 m3, .string a3, .string b3, .string cc3, .string d3, .string e3, .int .u64 k3, .slice p3 l3 c3, .slice p4 l4 c4, .int .u64 n5, .string s6, .int .u64 n7] 52)).alloc (.cells #[.int .u64 n0, .int .u64 m0, .string a0, .string b0, .string cc0, .string d0, .string e0, .int .u64 k0, .slice p0' l0 c0', .slice p1' l1 c1', .string s1, .slice p2' l2 c2', .int .u64 n3, .int .u64 m3, .string a3, .string b3, .string cc3, .string d3, .string e3, .int .u64 k3, .slice p3' l3 c3', .slice p4' l4 c4', .int .u64 n5, .string s6, .int .u64 n7] 52) = W := ⟨_, rfl⟩
  have hb0 : Below w.heap.size w w0 := by rw [← hw0]; exact ((Below.refl _ _).alloc (Nat.le_refl _) _).alloc (by simp) _
  have HF := Lib.hid (show ∀ W, Below w0.heap.size w0 W → HasCells W w.heap.size [.int .u64 n0, .int .u64 m0, .string a0, .string b0, .string cc0, .string d0, .string e0, .int .u64 k0, .slice p0 l0 c0, .slice p1 l1 c1, .string s1, .slice p2 l2 c2, .int .u64 n3, .int .u64 m3, .string a3, .string b3, .string cc3, .string d3, .string e3, .int .u64 k3, .slice p3 l3 c3, .slice p4 l4 c4, .int .u64 n5, .string s6, .int .u64 n7] 52 ∧ HasCells W (w.heap.size + 1) [.int .u64 n0, .int .u64 m0, .string a0, .string b0, .string cc0, .string d0, .string e0, .int .u64 k0, .slice p0' l0 c0', .slice p1' l1 c1', .string s1, .slice p2' l2 c2', .int .u64 n3, .int .u64 m3, .string a3, .string b3, .string cc3, .string d3, .string e3, .int .u64 k3, .slice p3' l3 c3', .slice p4' l4 c4', .int .u64 n5, .string s6, .int .u64 n7] 52 from fun W hb => by
    have h1 : HasCells w0 w.heap.size [.int .u64 n0, .int .u64 m0, .string a0, .string b0, .string cc0, .string d0, .string e0, .int .u64 k0, .slice p0 l0 c0, .slice p1 l1 c1, .string s1, .slice p2 l2 c2, .int .u64 n3, .int .u64 m3, .string a3, .string b3, .string cc3, .string d3, .string e3, .int .u64 k3, .slice p3 l3 c3, .slice p4 l4 c4, .int .u64 n5, .string s6, .int .u64 n7] 52 := by
      rw [← hw0]
      exact (Below.heap_alloc _ _ _ (by simp)).trans (HasCells.new w [.int .u64 n0, .int .u64 m0, .string a0, .string b0, .string cc0, .string d0, .string e0, .int .u64 k0, .slice p0 l0 c0, .slice p1 l1 c1, .string s1, .slice p2 l2 c2, .int .u64 n3, .int .u64 m3, .string a3, .string b3, .string cc3, .string d3, .string e3, .int .u64 k3, .slice p3 l3 c3, .slice p4 l4 c4, .int .u64 n5, .string s6, .int .u64 n7] 52)
    have h2 : HasCells w0 (w.heap.size + 1) [.int .u64 n0, .int .u64 m0, .string a0, .string b0, .string cc0, .string d0, .string e0, .int .u64 k0, .slice p0' l0 c0', .slice p1' l1 c1', .string s1, .slice p2' l2 c2', .int .u64 n3, .int .u64 m3, .string a3, .string b3, .string cc3, .string d3, .string e3, .int .u64 k3, .slice p3' l3 c3', .slice p4' l4 c4', .int .u64 n5, .string s6, .int .u64 n7] 52 := by
      rw [← hw0]
      have := HasCells.new (w.alloc (.cells #[.int .u64 n0, .int .u64 m0, .string a0, .string b0, .string cc0, .string d0, .string e0, .int .u64 k0, .slice p0 l0 c0, .slice p1 l1 c1, .string s1, .slice p2 l2 c2, .int .u64 n3, .int .u64 m3, .string a3, .string b3, .string cc3, .string d3, .string e3, .int .u64 k3, .slice p3 l3 c3, .slice p4 l4 c4, .int .u64 n5, .string s6, .int .u64 n7] 52)) [.int .u64 n0, .int .u64 m0, .string a0, .string b0, .string cc0, .string d0, .string e0, .int .u64 k0, .slice p0' l0 c0', .slice p1' l1 c1', .string s1, .slice p2' l2 c2', .int .u64 n3, .int .u64 m3, .string a3, .string b3, .string cc3, .string d3, .string e3, .int .u64 k3, .slice p3' l3 c3', .slice p4' l4 c4', .int .u64 n5, .string s6, .int .u64 n7] 52
      rwa [World.size_alloc] at this
    exact ⟨(hb.block _ h1.lt).trans h1, (hb.block _ h2.lt).trans h2⟩)
  have HB0 := Lib.hid hb0
  have HW0 := Lib.hid hw0
  have H0 := Lib.hid h0
  have H0' := Lib.hid h0'
  have H1 := Lib.hid h1
  have H1' := Lib.hid h1'
  have H2 := Lib.hid h2
  have H2' := Lib.hid h2'
  have H3 := Lib.hid h3
  have H3' := Lib.hid h3'
  have H4 := Lib.hid h4
  have H4' := Lib.hid h4'
  clear hw0 hb0 h0 h0' h1 h1' h2 h2' h3 h3' h4 h4'
  have bz0 : Below w0.heap.size w0 w0 := Below.refl _ _
  go_enter Tryd.func28, Tryd.ntmps28
  go_wp2_with fail
  rw [show (w.alloc (.cells #[.int .u64 n0, .int .u64 m0, .string a0, .string b0, .string cc0, .string d0, .string e0, .int .u64 k0, .slice p0 l0 c0, .slice p1 l1 c1, .string s1, .slice p2 l2 c2, .int .u64 n3, .int .u64 m3, .string a3, .string b3, .string cc3, .string d3, .string e3, .int .u64 k3, .slice p3 l3 c3, .slice p4 l4 c4, .int .u64 n5, .string s6, .int .u64 n7] 52)).alloc (.cells #[.int .u64 n0, .int .u64 m0, .string a0, .string b0, .string cc0, .string d0, .string e0, .int .u64 k0, .slice p0' l0 c0', .slice p1' l1 c1', .string s1, .slice p2' l2 c2', .int .u64 n3, .int .u64 m3, .string a3, .string b3, .string cc3, .string d3, .string e3, .int .u64 k3, .slice p3' l3 c3', .slice p4' l4 c4', .int .u64 n5, .string s6, .int .u64 n7] 52) = w0 from HW0.out]
  refine (sameLight_any _ _ _ _ _ _ _ _ _ _ _ _ _ _ w0 (H0.out.below (HB0.out.trans (bz0.mono HB0.out.size))) (H0'.out.below (HB0.out.trans (bz0.mono HB0.out.size))) hl0).mono ?_
  rintro e w1 ⟨rfl, hb⟩
  have bz1 := bz0.trans (hb.mono bz0.size)
  clear hb
  have qa12 := (HF.out w1 bz1).1.cell (j := 12) rfl
  have qb12 := (HF.out w1 bz1).2.cell (j := 12) rfl
  have qa13 := (HF.out w1 bz1).1.cell (j := 13) rfl
  have qb13 := (HF.out w1 bz1).2.cell (j := 13) rfl
  have qa14 := (HF.out w1 bz1).1.cell (j := 14) rfl
  have qb14 := (HF.out w1 bz1).2.cell (j := 14) rfl
  have qa15 := (HF.out w1 bz1).1.cell (j := 15) rfl
  have qb15 := (HF.out w1 bz1).2.cell (j := 15) rfl
  have qa16 := (HF.out w1 bz1).1.cell (j := 16) rfl
  have qb16 := (HF.out w1 bz1).2.cell (j := 16) rfl
  have qa17 := (HF.out w1 bz1).1.cell (j := 17) rfl
  have qb17 := (HF.out w1 bz1).2.cell (j := 17) rfl
  have qa18 := (HF.out w1 bz1).1.cell (j := 18) rfl
  have qb18 := (HF.out w1 bz1).2.cell (j := 18) rfl
  have qa19 := (HF.out w1 bz1).1.cell (j := 19) rfl
  have qb19 := (HF.out w1 bz1).2.cell (j := 19) rfl
  have qa20 := (HF.out w1 bz1).1.cell (j := 20) rfl
  have qb20 := (HF.out w1 bz1).2.cell (j := 20) rfl
  go_wp2_with fail
  refine (sameLight_any _ _ _ _ _ _ _ _ _ _ _ _ _ _ w1 (H3.out.below (HB0.out.trans (bz1.mono HB0.out.size))) (H3'.out.below (HB0.out.trans (bz1.mono HB0.out.size))) hl3).mono ?_
  rintro e w2 ⟨rfl, hb⟩
  have bz2 := bz1.trans (hb.mono bz1.size)
  clear hb qa12 qb12 qa13 qb13 qa14 qb14 qa15 qb15 qa16 qb16 qa17 qb17 qa18 qb18 qa19 qb19 qa20 qb20
  have qa9 := (HF.out w2 bz2).1.cell (j := 9) rfl
  have qb9 := (HF.out w2 bz2).2.cell (j := 9) rfl
  have qa10 := (HF.out w2 bz2).1.cell (j := 10) rfl
  have qb10 := (HF.out w2 bz2).2.cell (j := 10) rfl
  go_wp2_with fail
  refine (sameComm_any _ _ _ _ _ _ _ w2 (H1.out.below (HB0.out.trans (bz2.mono HB0.out.size))) (H1'.out.below (HB0.out.trans (bz2.mono HB0.out.size))) hl1).mono ?_
  rintro e w3 ⟨rfl, hb⟩
  have bz3 := bz2.trans (hb.mono bz2.size)
  clear hb qa9 qb9 qa10 qb10
  have qa11 := (HF.out w3 bz3).1.cell (j := 11) rfl
  have qb11 := (HF.out w3 bz3).2.cell (j := 11) rfl
  go_wp2_with fail
  have hlt2 : l2 = t2.length := by
    obtain ⟨_, _, hv, _⟩ := H2.out
    cases hv
    rfl
  refine (same8_any _ _ t2 w3 (H2.out.below (HB0.out.trans (bz3.mono HB0.out.size))) (H2'.out.below (HB0.out.trans (bz3.mono HB0.out.size))) (by rw [← hlt2]; exact hl2)).mono ?_
  clear hlt2
  rintro e w4 ⟨rfl, hb⟩
  have bz4 := bz3.trans (hb.mono bz3.size)
  clear hb qa11 qb11
  have qa21 := (HF.out w4 bz4).1.cell (j := 21) rfl
  have qb21 := (HF.out w4 bz4).2.cell (j := 21) rfl
  go_wp2_with fail
  have hlt4 : l4 = t4.length := by
    obtain ⟨_, _, hv, _⟩ := H4.out
    cases hv
    rfl
  refine (same8_any _ _ t4 w4 (H4.out.below (HB0.out.trans (bz4.mono HB0.out.size))) (H4'.out.below (HB0.out.trans (bz4.mono HB0.out.size))) (by rw [← hlt4]; exact hl4)).mono ?_
  clear hlt4
  rintro e w5 ⟨rfl, hb⟩
  have bz5 := bz4.trans (hb.mono bz4.size)
  clear hb qa21 qb21
  have qa22 := (HF.out w5 bz5).1.cell (j := 22) rfl
  have qb22 := (HF.out w5 bz5).2.cell (j := 22) rfl
  have qa23 := (HF.out w5 bz5).1.cell (j := 23) rfl
  have qb23 := (HF.out w5 bz5).2.cell (j := 23) rfl
  have qa24 := (HF.out w5 bz5).1.cell (j := 24) rfl
  have qb24 := (HF.out w5 bz5).2.cell (j := 24) rfl
  go_wp2_with fail
  go_ret
  exact ⟨rfl, HB0.out.trans (bz5.mono HB0.out.size)⟩
end Go.Proofs.YtfbopnebfdkhdaaDoor
