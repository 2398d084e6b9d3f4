/- Contracts of pharosref07's sizes; of isNode, under and Check where the first text is no list. -/
import Derived.Test.YthicdhnjincflaaDoorPrfJ
import Derived.Test.YthicdhnjincflaaDoorPsiP
import Derived.Test.YthicdhnjincflaaDoorDecB
namespace Go.Proofs.YthicdhnjincflaaDoor
open Go.RowKit Go.Shelf Go.Lib
attribute [local go_sem] Oper.semAt_some

set_option maxRecDepth 100000 in
set_option maxHeartbeats 3200000 in
theorem sizes07_any (root : List UInt8) (xs : List (List UInt8)) (v : Value) (w : World) (hv : Strs w v (xs.map bt)) (hN : xs.length ≤ 1099511627776) :
    Calls Tryd.prog 42 #[.string ⟨root.toArray⟩, v] w fun e w' => e = .returned (.bool (sizesP root xs)) ∧ w' = w := by
  obtain ⟨p, c, rfl, _⟩ := id hv
  obtain ⟨rp, hrp⟩ : ∃ r, sizesP root xs = r := ⟨_, rfl⟩
  obtain ⟨n, hn⟩ : ∃ n, xs.length = n := ⟨_, rfl⟩
  rw [List.length_map] at hv
  rw [List.length_map]
  rw [hn] at hN hv
  rw [hrp, hn]
  have HR := Lib.hid hrp
  have HN := Lib.hid hn
  have HV := Lib.hid hv
  have hrs : (⟨root.toArray⟩ : ByteArray).size = root.length := rfl
  obtain ⟨rl, hrl⟩ : ∃ n, root.length = n := ⟨_, rfl⟩
  rw [hrl] at hrs
  have HRL := Lib.hid hrl
  clear hrp hn hv hrl
  go_enter Tryd.func42, Tryd.ntmps42
  go_wp2_with fail
  go_loopw [5] (fun i wr => ∃ k : Nat, k ≤ n ∧ i = .int .i64 k ∧ Aside (FitsTo xs k) ∧ wr = w) (fun i _ => n - (RowKit.intOf i).toNat)
  case atStart => exact ⟨0, Nat.zero_le _, rfl, (fun i q h => by omega), rfl⟩
  case round =>
    obtain ⟨k, hk, rfl, HOK, rfl⟩ := hrel
    have g2 : (0 : Int) ≤ k := by omega
    by_cases hlt : k < n
    · obtain ⟨x, hx⟩ : ∃ x, xs[k]? = some x := ⟨_, List.getElem?_eq_getElem (by rw [HN.out]; exact hlt)⟩
      obtain ⟨bk, ob, rfl, hbk, hcl⟩ := HV.out.cell (by intro h; have := congrArg List.length h; simp [HN.out] at this; omega)
      have c1 : wr.cell? ⟨bk, ob + k, none⟩ = some (.string ⟨x.toArray⟩) := hcl k (bt x) (by rw [List.getElem?_map, hx]; rfl)
      have HX := Lib.hid hx
      have hs1 : (⟨x.toArray⟩ : ByteArray).size = x.length := rfl
      obtain ⟨kl, hkl⟩ : ∃ n, x.length = n := ⟨_, rfl⟩
      rw [hkl] at hs1
      have HKL := Lib.hid hkl
      have g3 : (k : Int) < n := by omega
      clear hx hcl hkl
      by_cases h1 : 65536 < kl
      · have j1 : (65536 : Int) < kl := by omega
        have hf : rp = false := HR.out.symm.trans (fits_bad HX.out (by rw [HKL.out]; omega))
        subst hf
        clear h1
        go_wp2_with fail
        go_ret
        exact ⟨rfl, rfl⟩
      · have j1 : ¬ ((65536 : Int) < kl) := by omega
        have j1d : decide ((65536 : Int) < kl) = false := decide_eq_false j1
        have hstep : FitsTo xs (k + 1) := fun j y hj hy => by
          by_cases he : j = k
          · subst he
            rw [HX.out] at hy
            cases hy
            rw [HKL.out]; omega
          · exact HOK j y (by omega) hy
        have HST := Lib.hid hstep
        clear hstep h1
        go_wp2_with fail
        go_roundw
        case rel => exact ⟨k + 1, by omega, by go_num, HST.out, trivial⟩
        case measure => simp [RowKit.intOf]; omega
    · have hkn : k = n := by omega
      subst hkn
      have g3 : ¬ (k : Int) < k := by omega
      have hg : rp = (decide (rl = 32) && decide (k ≤ 140)) := by
        rw [← HR.out, fits_good (by rw [HN.out]; exact HOK), HRL.out, HN.out]
      clear HOK
      by_cases h1 : rl = 32
      · have j1 : (rl : Int) = 32 := by omega
        rw [decide_eq_true h1, Bool.true_and] at hg
        have j2 : decide ((k : Int) ≤ 140) = rp := by rw [hg]; exact decide_eq_decide.2 (by omega)
        have HG := Lib.hid hg
        clear hg
        go_wp2_with fail
        go_ret
        exact ⟨by rw [HG.out]; rfl, rfl⟩
      · have j1 : ¬ (rl : Int) = 32 := by omega
        rw [decide_eq_false h1, Bool.false_and] at hg
        subst hg
        go_wp2_with fail
        go_ret
        exact ⟨rfl, rfl⟩
set_option maxRecDepth 100000 in
set_option maxHeartbeats 1600000 in
theorem isNode07_flat (t : ByteArray) (p : Option Addr) (n c : Nat) (w : World) : Calls Tryd.prog 65 #[.agg #[.bool false, .string t, .slice p n c]] w fun e w' => e = .returned (.bool false) ∧ Below w.heap.size w w' := by
  go_enter Tryd.func65, Tryd.ntmps65
  go_wp2_with fail
  go_ret
  exact ⟨rfl, laid1 w _⟩
theorem infoFoundS : (Tryd.prog.info? 63).map (·.size) = some 4 := by kernel_rfl
def foundNone : Value := .agg #[.string ⟨#[]⟩, .bool false, .int .i64 0, .bool false]
set_option maxRecDepth 100000 in
set_option maxHeartbeats 6400000 in
/-- a text's reference, and the first text is no list -/
theorem under07_dull (root s : List UInt8) (path : ByteArray) (bk o m c : Nat) (w : World) (hc : w.cell? ⟨bk, o, none⟩ = some (.string ⟨s.toArray⟩)) (hs : s.length ≤ 1099511627776) (hd : (decode s).1.isList = false) :
    Calls Tryd.prog 43 #[.agg #[.bool false, .string ⟨root.toArray⟩, .slice none 0 0], .string path, .slice (some ⟨bk, o, none⟩) (m + 1) c, .int .i64 0] w fun e w' => e = .returned foundNone ∧ Below w.heap.size w w' := by
  obtain ⟨kk, hkk⟩ : ∃ k, keccakL s = k := ⟨_, rfl⟩
  have HK : Hid (∀ W, Calls Tryd.prog 33 #[.string ⟨s.toArray⟩] W fun e w' => e = .returned (.string ⟨kk.toArray⟩) ∧ Below W.heap.size W w') := Lib.hid fun W => by
    have h := rkSum_any ⟨s.toArray⟩ W hs
    rw [show (⟨s.toArray⟩ : ByteArray).data.toList = s from rfl, hkk] at h
    exact h
  have HD := Lib.hid (fun W => decodeRef_any s W hs)
  have HDL := Lib.hid hd
  have g1 : (0 : Int) < (m : Int) + 1 := by omega
  have g2 : ¬ (m : Int) + 1 ≤ 0 := by omega
  have g3 : decide ((m : Int) + 1 ≤ 0) = false := decide_eq_false g2
  clear hkk hd hs
  go_enter Tryd.func43, Tryd.ntmps43
  go_wp2_with fail
  have hq0 := ((HasCells.new w [.bool false, .string ⟨root.toArray⟩, .slice none 0 0] 58).alloc (.cells #[.string ⟨#[]⟩, .bool false, .int .i64 0, .bool false] 63)).alloc (.cells #[.bool false, .string ⟨root.toArray⟩, .slice none 0 0] 58)
  have hz0 := (HasCells.new (w.alloc (.cells #[.bool false, .string ⟨root.toArray⟩, .slice none 0 0] 58)) [.string ⟨#[]⟩, .bool false, .int .i64 0, .bool false] 63).alloc (.cells #[.bool false, .string ⟨root.toArray⟩, .slice none 0 0] 58)
  have hx0 := HasCells.new ((w.alloc (.cells #[.bool false, .string ⟨root.toArray⟩, .slice none 0 0] 58)).alloc (.cells #[.string ⟨#[]⟩, .bool false, .int .i64 0, .bool false] 63)) [.bool false, .string ⟨root.toArray⟩, .slice none 0 0] 58
  have hb0 : Below w.heap.size w (((w.alloc (.cells #[.bool false, .string ⟨root.toArray⟩, .slice none 0 0] 58)).alloc (.cells #[.string ⟨#[]⟩, .bool false, .int .i64 0, .bool false] 63)).alloc (.cells #[.bool false, .string ⟨root.toArray⟩, .slice none 0 0] 58)) := (((Below.refl _ _).alloc (Nat.le_refl _) _).alloc (by simp) _).alloc (by simp; omega) _
  simp only [World.size_alloc] at hz0 hx0
  obtain ⟨w0, hw0⟩ : ∃ W, (((w.alloc (.cells #[.bool false, .string ⟨root.toArray⟩, .slice none 0 0] 58)).alloc (.cells #[.string ⟨#[]⟩, .bool false, .int .i64 0, .bool false] 63)).alloc (.cells #[.bool false, .string ⟨root.toArray⟩, .slice none 0 0] 58)) = W := ⟨_, rfl⟩
  rw [hw0] at hq0 hz0 hx0 hb0 ⊢
  have hbk := World.block_lt_of_cell? w _ hc
  have HQ0 := Lib.hid hq0
  have HZ0 := Lib.hid hz0
  have HX0 := Lib.hid hx0
  have HB0 := Lib.hid hb0
  have HSW : Hid (∀ W, Below w0.heap.size w0 W → W.cell? ⟨w.heap.size, 1, none⟩ = some (.string ⟨root.toArray⟩) ∧ W.cell? ⟨bk, o, none⟩ = some (.string ⟨s.toArray⟩)) := Lib.hid fun W hb =>
    ⟨(hq0.after hb).cell (j := 1) rfl, ((hb0.trans (hb.mono hb0.size)).cell (p := ⟨bk, o, none⟩) hbk).trans hc⟩
  clear hw0 hq0 hz0 hx0 hb0 hc hbk
  refine wp_region_held_drew (S := (fun W => W.cell? ⟨w.heap.size, 1, none⟩ = some (.string ⟨root.toArray⟩) ∧ W.cell? ⟨bk, o, none⟩ = some (.string ⟨s.toArray⟩))) (by kernel_rfl) (HSW.out _ (Below.refl _ _).drew) (fun hHeld => ?_)
  refine wpAnyH_take (i := 0) (v := ?_) rfl (by kernel_rfl) (by kernel_rfl) (by kernel_rfl) (fun _ _ _ h => h) (.inl ⟨by rfl, ?_⟩) (by assumption) ?_
  rotate_left 1
  · intro w0 hSw
    go_simp <;> with_reducible rfl
  try simp only [Act.put, List.getElem_toArray, List.getElem_cons_zero, List.setIfInBounds_toArray, List.set_cons_zero, List.set_cons_succ]
  refine wpAnyH_take (i := 1) (v := ?_) rfl (by kernel_rfl) (by kernel_rfl) (by kernel_rfl) (fun _ _ _ h => h) (.inl ⟨by rfl, ?_⟩) (by assumption) ?_
  rotate_left 1
  · intro w0 hSw
    go_simp <;> with_reducible rfl
  try simp only [Act.put, List.getElem_toArray, List.getElem_cons_zero, List.getElem_cons_succ, List.setIfInBounds_toArray, List.set_cons_zero, List.set_cons_succ]
  refine wpAnyH_take (i := 2) (v := ?_) rfl (by kernel_rfl) (by kernel_rfl) (by kernel_rfl) (fun _ _ _ h => h) (.inl ⟨by rfl, ?_⟩) (by assumption) ?_
  rotate_left 1
  · intro w0 hSw
    go_simp <;> with_reducible rfl
  try simp only [Act.put, List.getElem_toArray, List.getElem_cons_zero, List.getElem_cons_succ, List.setIfInBounds_toArray, List.set_cons_zero, List.set_cons_succ]
  refine wpAnyH_take (i := 3) (v := ?_) rfl (by kernel_rfl) (by kernel_rfl) (by kernel_rfl) (fun _ _ _ h => h) (.inl ⟨by rfl, ?_⟩) (by assumption) ?_
  rotate_left 1
  · intro w0 hSw
    go_simp <;> with_reducible rfl
  try simp only [Act.put, List.getElem_toArray, List.getElem_cons_zero, List.getElem_cons_succ, List.setIfInBounds_toArray, List.set_cons_zero, List.set_cons_succ]
  refine wpAnyH_take (i := 4) (v := ?_) rfl (by kernel_rfl) (by kernel_rfl) (by kernel_rfl) (fun _ _ _ h => h) (.inl ⟨by rfl, ?_⟩) (by assumption) ?_
  rotate_left 1
  · intro w0 hSw
    go_simp <;> with_reducible rfl
  try simp only [Act.put, List.getElem_toArray, List.getElem_cons_zero, List.getElem_cons_succ, List.setIfInBounds_toArray, List.set_cons_zero, List.set_cons_succ]
  refine wpAnyH_take (i := 5) (v := ?_) rfl (by kernel_rfl) (by kernel_rfl) (by kernel_rfl) (fun _ _ _ h => h) (.inl ⟨by rfl, ?_⟩) (by assumption) ?_
  rotate_left 1
  · intro w0 hSw
    go_simp <;> with_reducible rfl
  try simp only [Act.put, List.getElem_toArray, List.getElem_cons_zero, List.getElem_cons_succ, List.setIfInBounds_toArray, List.set_cons_zero, List.set_cons_succ]
  refine wpAnyH_take (i := 6) (v := ?_) rfl (by kernel_rfl) (by kernel_rfl) (by kernel_rfl) (fun _ _ _ h => h) (.inl ⟨by rfl, ?_⟩) (by assumption) ?_
  rotate_left 1
  · intro w0 hSw
    go_simp <;> with_reducible rfl
  try simp only [Act.put, List.getElem_toArray, List.getElem_cons_zero, List.getElem_cons_succ, List.setIfInBounds_toArray, List.set_cons_zero, List.set_cons_succ]
  refine wpAnyH_take (i := 7) (v := ?_) rfl (by kernel_rfl) (by kernel_rfl) (by kernel_rfl) (fun _ _ _ h => h) (.inl ⟨by rfl, ?_⟩) (by assumption) ?_
  rotate_left 1
  · intro w0 hSw
    go_simp <;> with_reducible rfl
  try simp only [Act.put, List.getElem_toArray, List.getElem_cons_zero, List.getElem_cons_succ, List.setIfInBounds_toArray, List.set_cons_zero, List.set_cons_succ]
  refine wpAnyH_take (i := 8) (v := ?_) rfl (by kernel_rfl) (by kernel_rfl) (by kernel_rfl) (fun _ _ _ h => h) (.inl ⟨by rfl, ?_⟩) (by assumption) ?_
  rotate_left 1
  · intro w0 hSw
    obtain ⟨z0, z1⟩ := hSw
    go_simp <;> with_reducible rfl
  try simp only [Act.put, List.getElem_toArray, List.getElem_cons_zero, List.getElem_cons_succ, List.setIfInBounds_toArray, List.set_cons_zero, List.set_cons_succ]
  refine wpAnyH_take (i := 10) (v := ?_) rfl (by kernel_rfl) (by kernel_rfl) (by kernel_rfl) (fun _ _ _ h => h) (.inl ⟨by rfl, ?_⟩) (by assumption) ?_
  rotate_left 1
  · intro w0 hSw
    go_simp <;> with_reducible rfl
  try simp only [Act.put, List.getElem_toArray, List.getElem_cons_zero, List.getElem_cons_succ, List.setIfInBounds_toArray, List.set_cons_zero, List.set_cons_succ]
  refine wpAnyH_take (i := 11) (v := ?_) rfl (by kernel_rfl) (by kernel_rfl) (by kernel_rfl) (fun _ _ _ h => h) (.inl ⟨by rfl, ?_⟩) (by assumption) ?_
  rotate_left 1
  · intro w0 hSw
    obtain ⟨z0, z1⟩ := hSw
    go_simp <;> with_reducible rfl
  try simp only [Act.put, List.getElem_toArray, List.getElem_cons_zero, List.getElem_cons_succ, List.setIfInBounds_toArray, List.set_cons_zero, List.set_cons_succ]
  refine wpAnyH_ready (rs := [9]) (by kernel_rfl) (by simp) ?_
  refine AllReadyH.cons rfl (fun K hK => ?_) AllReadyH.nil
  go_simp
  go_at_call 33
  refine (HK.out _).mono ?_
  rintro e w1 ⟨rfl, hb1⟩
  have b1 : Below w0.heap.size w0 w1 := (Below.refl w0.heap.size w0).drew.trans (hb1.mono (Nat.le_refl _))
  refine hK.out _ _ (HSW.out _ b1) (fun hHeld => ?_)
  clear hK K
  try simp only [Act.put, List.getElem_toArray, List.getElem_cons_zero, List.getElem_cons_succ, List.setIfInBounds_toArray, List.set_cons_zero, List.set_cons_succ]
  refine wpAnyH_take (i := 12) (v := ?_) rfl (by kernel_rfl) (by kernel_rfl) (by kernel_rfl) (fun _ _ _ h => h) (.inl ⟨by rfl, ?_⟩) (by assumption) ?_
  rotate_left 1
  · intro w0 hSw
    go_simp <;> with_reducible rfl
  try simp only [Act.put, List.getElem_toArray, List.getElem_cons_zero, List.getElem_cons_succ, List.setIfInBounds_toArray, List.set_cons_zero, List.set_cons_succ]
  refine wpAnyH_take (i := 13) (v := ?_) rfl (by kernel_rfl) (by kernel_rfl) (by kernel_rfl) (fun _ _ _ h => h) (.inl ⟨by rfl, ?_⟩) (by assumption) ?_
  rotate_left 1
  · intro w0 hSw
    go_simp <;> with_reducible rfl
  try simp only [Act.put, List.getElem_toArray, List.getElem_cons_zero, List.getElem_cons_succ, List.setIfInBounds_toArray, List.set_cons_zero, List.set_cons_succ]
  refine wpAnyH_done (by kernel_rfl) ?_ 0
  clear hHeld
  obtain ⟨eq, heq⟩ : ∃ b, (kk == root) = b := ⟨_, rfl⟩
  try rw [heq]
  have HB1 := Lib.hid (HB0.out.trans (b1.mono HB0.out.size))
  have HZ1 := Lib.hid (HZ0.out.after b1)
  have HX1 := Lib.hid (HX0.out.after b1)
  have HC1 := Lib.hid (HSW.out _ b1).2
  clear b1 hb1 HSW HZ0 HX0 HQ0 HB0
  cases eq with
  | false =>
    have e0 := HZ1.out.cell (j := 0) rfl
    have e1 := HZ1.out.cell (j := 1) rfl
    have e2 := HZ1.out.cell (j := 2) rfl
    have e3 := HZ1.out.cell (j := 3) rfl
    have f0 := HZ1.out.frozen 0
    have f1 := HZ1.out.frozen 1
    have f2 := HZ1.out.frozen 2
    have f3 := HZ1.out.frozen 3
    go_wp2_with fail
    have hfz := (((HZ1.out.set 0 (.string ⟨#[]⟩)).set 1 (.bool false)).set 2 (.int .i64 0)).set 3 (.bool false)
    refine bodyPost_ret (results_cells rfl _ _ (w.heap.size + 1) [.string ⟨#[]⟩, .bool false, .int .i64 0, .bool false] _ (by rfl) (HasCells.kept hfz rfl).range Tryd.underlying63 rfl infoFoundS) rfl ?_
    refine ⟨rfl, ?_⟩
    exact (((HB1.out.setCell (p := ⟨w.heap.size + 1, 0, none⟩) (show w.heap.size ≤ w.heap.size + 1 by omega) _).setCell (p := ⟨w.heap.size + 1, 1, none⟩) (show w.heap.size ≤ w.heap.size + 1 by omega) _).setCell (p := ⟨w.heap.size + 1, 2, none⟩) (show w.heap.size ≤ w.heap.size + 1 by omega) _).setCell (p := ⟨w.heap.size + 1, 3, none⟩) (show w.heap.size ≤ w.heap.size + 1 by omega) _
  | true =>
    have c1 := HC1.out
    go_wp2_with fail
    refine (HD.out _).mono ?_
    rintro e w2 ⟨hb2, x, nn, xp, xc, rfl, hdx, -⟩
    have HB2 := Lib.hid (HB1.out.trans (hb2.mono HB1.out.size))
    have HZ2 := Lib.hid (HZ1.out.after hb2)
    have HX2 := Lib.hid (HX1.out.after hb2)
    have hxf : x.isList = false := by have h := HDL.out; rw [hdx.out] at h; exact h
    obtain ⟨xt, hxt⟩ : ∃ t, x.text = t := ⟨_, rfl⟩
    obtain ⟨xn, hxn⟩ : ∃ t, x.list.length = t := ⟨_, rfl⟩
    rw [hxf, hxt, hxn]
    have HZ3 := Lib.hid (HZ2.out.alloc (.cells #[.bool false, .string ⟨xt.toArray⟩, .slice xp xn xc] 58))
    have HB3 := Lib.hid (HB2.out.alloc HB2.out.size (.cells #[.bool false, .string ⟨xt.toArray⟩, .slice xp xn xc] 58))
    have HX3 := Lib.hid (HX2.out.alloc (.cells #[.bool false, .string ⟨xt.toArray⟩, .slice xp xn xc] 58))
    have HN3 := Lib.hid (HasCells.new w2 [.bool false, .string ⟨xt.toArray⟩, .slice xp xn xc] 58)
    clear hb2 hdx hxf hxt hxn c1 HC1
    by_cases hnn : nn = 0
    · subst hnn
      have n0 := HN3.out.cell (j := 0) rfl
      have n1 := HN3.out.cell (j := 1) rfl
      have n2 := HN3.out.cell (j := 2) rfl
      have x0 := HX3.out.cell (j := 0) rfl
      have x1 := HX3.out.cell (j := 1) rfl
      have x2 := HX3.out.cell (j := 2) rfl
      have fx0 := HX3.out.frozen 0
      have fx1 := HX3.out.frozen 1
      have fx2 := HX3.out.frozen 2
      have HZ4 := Lib.hid (HZ3.out.threeOther (show w.heap.size + 1 ≠ w.heap.size + 1 + 1 by omega) (.bool false) (.string ⟨xt.toArray⟩) (.slice xp xn xc))
      have HB4 := Lib.hid (three_at HB3.out (show w.heap.size ≤ w.heap.size + 1 + 1 by omega) (.bool false) (.string ⟨xt.toArray⟩) (.slice xp xn xc))
      clear HZ3 HB3 HX3 HN3 HZ2 HB2 HX2 HZ1 HB1 HX1
      go_wp2_with fail
      refine (isNode07_flat _ _ _ _ _).mono ?_
      rintro e w4 ⟨rfl, hb4⟩
      have HZ5 := Lib.hid (HZ4.out.after hb4)
      have HB5 := Lib.hid (HB4.out.trans (hb4.mono HB4.out.size))
      clear hb4 HZ4 HB4 n0 n1 n2 x0 x1 x2 fx0 fx1 fx2
      have e0 := HZ5.out.cell (j := 0) rfl
      have e1 := HZ5.out.cell (j := 1) rfl
      have e2 := HZ5.out.cell (j := 2) rfl
      have e3 := HZ5.out.cell (j := 3) rfl
      have f0 := HZ5.out.frozen 0
      have f1 := HZ5.out.frozen 1
      have f2 := HZ5.out.frozen 2
      have f3 := HZ5.out.frozen 3
      go_wp2_with fail
      have hfz := (((HZ5.out.set 0 (.string ⟨#[]⟩)).set 1 (.bool false)).set 2 (.int .i64 0)).set 3 (.bool false)
      refine bodyPost_ret (results_cells rfl _ _ (w.heap.size + 1) [.string ⟨#[]⟩, .bool false, .int .i64 0, .bool false] _ (by rfl) (HasCells.kept hfz rfl).range Tryd.underlying63 rfl infoFoundS) rfl ?_
      refine ⟨rfl, ?_⟩
      exact (((HB5.out.setCell (p := ⟨w.heap.size + 1, 0, none⟩) (show w.heap.size ≤ w.heap.size + 1 by omega) _).setCell (p := ⟨w.heap.size + 1, 1, none⟩) (show w.heap.size ≤ w.heap.size + 1 by omega) _).setCell (p := ⟨w.heap.size + 1, 2, none⟩) (show w.heap.size ≤ w.heap.size + 1 by omega) _).setCell (p := ⟨w.heap.size + 1, 3, none⟩) (show w.heap.size ≤ w.heap.size + 1 by omega) _
    · have q3 : (nn == 0) = false := by simpa using hnn
      have e0 := HZ3.out.cell (j := 0) rfl
      have e1 := HZ3.out.cell (j := 1) rfl
      have e2 := HZ3.out.cell (j := 2) rfl
      have e3 := HZ3.out.cell (j := 3) rfl
      have f0 := HZ3.out.frozen 0
      have f1 := HZ3.out.frozen 1
      have f2 := HZ3.out.frozen 2
      have f3 := HZ3.out.frozen 3
      go_wp2_with fail
      have hfz := (((HZ3.out.set 0 (.string ⟨#[]⟩)).set 1 (.bool false)).set 2 (.int .i64 0)).set 3 (.bool false)
      refine bodyPost_ret (results_cells rfl _ _ (w.heap.size + 1) [.string ⟨#[]⟩, .bool false, .int .i64 0, .bool false] _ (by rfl) (HasCells.kept hfz rfl).range Tryd.underlying63 rfl infoFoundS) rfl ?_
      refine ⟨rfl, ?_⟩
      exact (((HB3.out.setCell (p := ⟨w.heap.size + 1, 0, none⟩) (show w.heap.size ≤ w.heap.size + 1 by omega) _).setCell (p := ⟨w.heap.size + 1, 1, none⟩) (show w.heap.size ≤ w.heap.size + 1 by omega) _).setCell (p := ⟨w.heap.size + 1, 2, none⟩) (show w.heap.size ≤ w.heap.size + 1 by omega) _).setCell (p := ⟨w.heap.size + 1, 3, none⟩) (show w.heap.size ≤ w.heap.size + 1 by omega) _
set_option maxRecDepth 100000 in
set_option maxHeartbeats 6400000 in
/-- the reference's Check, where the first text is no list -/
theorem check07_dull (root key : List UInt8) (xs : List (List UInt8)) (v : Value) (w : World) (hv : Strs w v (xs.map bt)) (hN : xs.length ≤ 1000000) (hsz : ∀ s ∈ xs, s.length ≤ 1099511627776) (hk : key.length ≤ 1048576) (hd : Dull xs) :
    Calls Tryd.prog 15 #[.string ⟨root.toArray⟩, .string ⟨key.toArray⟩, v] w fun e w' => e = .returned (checkV (checkP keccakL root key xs)) ∧ Below w.heap.size w w' := by
  have hf := sizes07_any root xs v w hv (by omega)
  obtain ⟨p, c, rfl, _⟩ := id hv
  obtain ⟨n, hn⟩ : ∃ n, (xs.map bt).length = n := ⟨_, rfl⟩
  rw [hn] at hf ⊢
  rw [List.length_map] at hn
  obtain ⟨sz, hsz2⟩ : ∃ b, sizesP root xs = b := ⟨_, rfl⟩
  rw [hsz2] at hf
  have HF := Lib.hid hf
  have hks : (⟨key.toArray⟩ : ByteArray).size = key.length := rfl
  cases hg : (sz && keyOk key) with
  | false =>
    have hb : checkP keccakL root key xs = ([], 2) := check_bad (by rw [hsz2]; exact hg)
    rw [hb]
    cases sz with
    | false =>
      clear hf hv hn hsz hd hsz2 hg hb
      go_enter Tryd.func15, Tryd.ntmps15
      go_wp2_with fail
      refine HF.out.mono ?_
      rintro e w1 ⟨rfl, rfl⟩
      go_wp2_with fail
      go_ret3
      exact ⟨rfl, Below.refl _ _⟩
    | true =>
      rw [Bool.true_and] at hg
      have hcase : key = [] ∨ 64 < key.length := by
        unfold keyOk at hg
        cases key with
        | nil => exact .inl rfl
        | cons a r => simp at hg; right; simp; omega
      obtain ⟨kl, hkl⟩ : ∃ n, key.length = n := ⟨_, rfl⟩
      rw [hkl] at hks
      have hcase2 : kl = 0 ∨ 64 < kl := by
        rcases hcase with rfl | h
        · exact .inl hkl.symm
        · exact .inr (by omega)
      clear hf hv hn hsz hd hsz2 hg hb hcase hkl hk
      rcases hcase2 with rfl | h64
      · go_enter Tryd.func15, Tryd.ntmps15
        go_wp2_with fail
        refine HF.out.mono ?_
        rintro e w1 ⟨rfl, rfl⟩
        go_wp2_with fail
        go_ret3
        exact ⟨rfl, Below.refl _ _⟩
      · have j1 : ¬ (kl : Int) < 1 := by omega
        have j1d : decide ((kl : Int) < 1) = false := decide_eq_false j1
        have j2 : (64 : Int) < (kl : Int) := by omega
        clear h64
        go_enter Tryd.func15, Tryd.ntmps15
        go_wp2_with fail
        refine HF.out.mono ?_
        rintro e w1 ⟨rfl, rfl⟩
        go_wp2_with fail
        go_ret3
        exact ⟨rfl, Below.refl _ _⟩
  | true =>
    rw [Bool.and_eq_true] at hg
    obtain ⟨rfl, hko⟩ := hg
    have hkl : 1 ≤ key.length ∧ key.length ≤ 64 := by
      unfold keyOk at hko
      rw [Bool.and_eq_true, decide_eq_true_eq] at hko
      refine ⟨?_, hko.2⟩
      cases key with
      | nil => simp at hko
      | cons a r => simp
    have hg0 : (sizesP root xs && keyOk key) = true := by rw [hsz2, hko]; rfl
    have hof := ofRef_l (l := key) (p := halves key) rfl (by omega)
    obtain ⟨path, hpath⟩ : ∃ q, halves key = q := ⟨_, rfl⟩
    rw [hpath] at hof
    have HOF := Lib.hid hof
    obtain ⟨kl, hkl2⟩ : ∃ n, key.length = n := ⟨_, rfl⟩
    rw [hkl2] at hks hkl
    have j1 : ¬ (kl : Int) < 1 := by omega
    have j1d : decide ((kl : Int) < 1) = false := decide_eq_false j1
    have j2 : ¬ (64 : Int) < (kl : Int) := by omega
    have j2d : decide ((64 : Int) < (kl : Int)) = false := decide_eq_false j2
    cases xs with
    | nil =>
      obtain rfl : n = 0 := hn.symm
      obtain ⟨kk, hkk⟩ : ∃ k, keccakL [128] = k := ⟨_, rfl⟩
      have HS := Lib.hid (fun W => rkSum_any ⟨#[128]⟩ W (by decide))
      have hkq : (⟨(keccakL (⟨#[128]⟩ : ByteArray).data.toList).toArray⟩ : ByteArray) = ⟨kk.toArray⟩ := by rw [← hkk]
      rw [hkq] at HS
      rw [check_none hg0, hkk]
      by_cases hr : root = kk
      · rw [if_pos hr]
        have q1 : (root == kk) = true := by rw [hr]; exact beq_self_eq_true kk
        clear hf hv hn hsz hd hsz2 hg0 hko hkl hof hpath hkl2 hk hkk hkq hr
        go_enter Tryd.func15, Tryd.ntmps15
        go_wp2_with fail
        refine HF.out.mono ?_
        rintro e w1 ⟨rfl, rfl⟩
        go_wp2_with fail
        refine (HS.out _).mono ?_
        rintro e w2 ⟨rfl, hb2⟩
        have HB2 := Lib.hid hb2
        clear hb2
        go_wp2_with fail
        go_ret3
        exact ⟨rfl, HB2.out⟩
      · rw [if_neg hr]
        have q1 : (root == kk) = false := by rw [beq_eq_false_iff_ne]; exact hr
        clear hf hv hn hsz hd hsz2 hg0 hko hkl hof hpath hkl2 hk hkk hkq hr
        go_enter Tryd.func15, Tryd.ntmps15
        go_wp2_with fail
        refine HF.out.mono ?_
        rintro e w1 ⟨rfl, rfl⟩
        go_wp2_with fail
        refine (HS.out _).mono ?_
        rintro e w2 ⟨rfl, hb2⟩
        have HB2 := Lib.hid hb2
        clear hb2
        go_wp2_with fail
        go_ret3
        exact ⟨rfl, HB2.out⟩
    | cons s r =>
      obtain ⟨m, hm⟩ : ∃ m, r.length = m := ⟨_, rfl⟩
      obtain rfl : n = m + 1 := by rw [← hn, ← hm]; rfl
      rw [check_dull keccakL hg0 (hd s r rfl)]
      obtain ⟨bk, o, rfl, hbk, hc⟩ := hv.cell (by simp)
      have hc0 := hc 0 (bt s) rfl
      rw [Nat.add_zero] at hc0
      have HU := Lib.hid (fun W (hb : Below w.heap.size w W) => under07_dull root s ⟨path.toArray⟩ bk o m c W ((hb.cell (p := ⟨bk, o, none⟩) hbk).trans hc0) (hsz s (by simp)) (hd s r rfl))
      have z1 : ((m : Int) + 1 == 0) = false := by rw [beq_eq_false_iff_ne]; omega
      have z2 : ¬ ((m : Int) + 1 = 0) := by omega
      clear hf hv hn hsz hd hsz2 hg0 hko hkl hof hpath hkl2 hk hc hc0 hbk hm
      go_enter Tryd.func15, Tryd.ntmps15
      go_wp2_with fail
      refine HF.out.mono ?_
      rintro e w1 ⟨rfl, rfl⟩
      go_wp2_with fail
      refine (HOF.out _).mono ?_
      rintro e w2 ⟨rfl, hb2⟩
      have HB2 := Lib.hid hb2
      clear hb2
      go_wp2_with fail
      refine (HU.out _ HB2.out).mono ?_
      rintro e w3 ⟨rfl, hb3⟩
      have HB3 := Lib.hid (HB2.out.trans (hb3.mono HB2.out.size))
      clear hb3
      unfold foundNone
      go_wp2_with fail
      go_ret3
      exact ⟨rfl, HB3.out.alloc HB3.out.size _⟩
end Go.Proofs.YthicdhnjincflaaDoor
