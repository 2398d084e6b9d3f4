/- Contract of the reference's Same over items in memory. -/
import Derived.Test.YtjccllfgendpdaaDoorItmF
import Derived.StillTailTactics
namespace Go.Proofs.YtjccllfgendpdaaDoor
open Go.RowKit Go.Shelf Go.Lib

set_option maxRecDepth 100000 in
set_option maxHeartbeats 3200000 in
theorem sameRef_any (N : Nat) (hN : N ≤ 1099511627776) : ∀ (x y : Item) (u v : Value) (w : World), x.size ≤ N → y.size ≤ 1099511627776 → Reads w w.heap.size u x.list → Reads w w.heap.size v y.list →
    Calls Tryd.prog 26 #[.agg #[.bool x.isList, .string ⟨x.text.toArray⟩, u], .agg #[.bool y.isList, .string ⟨y.text.toArray⟩, v]] w fun e w' => e = .returned (.bool (same x y)) ∧ Below w.heap.size w w' := by
  induction N with
  | zero => intro x y u v w hx; have := x.size_pos; omega
  | succ N ih =>
    intro x y u v w hx hy hr1 hr2
    obtain ⟨p, c, rfl⟩ := hr1.form
    obtain ⟨q, d, rfl⟩ := hr2.form
    have ih' := Lib.hid (ih (by omega))
    have hlen : x.list.length ≤ 1099511627776 := by have := length_lt_size x; omega
    have HX := Lib.hid hx
    have HY := Lib.hid hy
    have Hr1 := Lib.hid hr1
    have Hr2 := Lib.hid hr2
    clear ih hx hy hr1 hr2
    rw [same_eq]
    by_cases hb : x.isList = y.isList
    · by_cases ht : x.text = y.text
      · by_cases hl : x.list.length = y.list.length
        · have HL := Lib.hid hl
          obtain ⟨n, hn⟩ : ∃ n, x.list.length = n := ⟨_, rfl⟩
          have hn2 : y.list.length = n := hl.symm.trans hn
          rw [← ht, ← hb, hn, hn2]
          rw [hn] at Hr1 hlen
          rw [hn2] at Hr2
          have HN := Lib.hid hn
          clear hl hn hn2 ht hb
          obtain ⟨B, hB⟩ : ∃ B, x.isList = B := ⟨_, rfl⟩
          obtain ⟨T, hT⟩ : ∃ T, x.text = T := ⟨_, rfl⟩
          rw [hB, hT]
          have e0 : (B == B && T == T && sameAll x.list y.list) = sameAll x.list y.list := by simp
          rw [e0]
          clear hB hT e0
          go_enter Tryd.func26, Tryd.ntmps26
          go_wp2_with fail
          go_loopg [5, 6] n (fun gg i _ wr => ∃ k : Nat, k ≤ n ∧ n - k ≤ gg ∧ i = .int .i64 k ∧ Aside (Below (w.heap.size + 2) ((w.alloc (.cells #[.bool B, .string ⟨T.toArray⟩, .slice p n c] 36)).alloc (.cells #[.bool B, .string ⟨T.toArray⟩, .slice q n d] 36)) wr) ∧ Aside (∀ (j : Nat) a b, j < k → x.list[j]? = some a → y.list[j]? = some b → same a b = true))
          case atStart => exact ⟨0, by omega, by omega, rfl, Below.refl _ _, fun j a b hj => absurd hj (Nat.not_lt_zero _)⟩
          case round =>
            obtain ⟨k, hk, hg, rfl, BW, A⟩ := hrel
            have g1 : (0 : Int) ≤ k := by omega
            have hBW := (laid2 w _ _).trans (BW.out.mono (by omega))
            have HBW := Lib.hid hBW
            have hz := hBW.size
            have hc2 : wr.cell? ⟨w.heap.size, 2, none⟩ = some (.slice p n c) := (BW.out.cell (p := ⟨w.heap.size, 2, none⟩) (show w.heap.size < w.heap.size + 2 by omega)).trans (by simp)
            have hc3 : wr.cell? ⟨w.heap.size + 1, 2, none⟩ = some (.slice q n d) := (BW.out.cell (p := ⟨w.heap.size + 1, 2, none⟩) (show w.heap.size + 1 < w.heap.size + 2 by omega)).trans (by simp)
            clear hBW
            by_cases hlt : k < n
            · have hltz : (k : Int) < (n : Int) := by omega
              obtain ⟨a, ha⟩ : ∃ a, x.list[k]? = some a := ⟨x.list[k]'(by rw [HN.out]; exact hlt), by simp⟩
              obtain ⟨b, hb⟩ : ∃ b, y.list[k]? = some b := ⟨y.list[k]'(by rw [← HL.out, HN.out]; exact hlt), by simp⟩
              obtain ⟨-, ga, oa, rfl, hga, hat⟩ := (Hr1.out.below HBW.out hz).at (by omega)
              obtain ⟨-, gb, ob, rfl, hgb, hat'⟩ := (Hr2.out.below HBW.out hz).at (by omega)
              obtain ⟨h1, h2, v1, h3, h4⟩ := hat k a ha
              obtain ⟨h5, h6, v2, h7, h8⟩ := hat' k b hb
              obtain ⟨q1, n1, rfl⟩ := h4.form
              obtain ⟨q2, n2, rfl⟩ := h8.form
              have hcall := ih'.out a b (.slice q1 a.list.length n1) (.slice q2 b.list.length n2) wr.drew (by have := size_child ha; have := HX.out; omega) (by have := size_child hb; have := HY.out; omega) (h4.below (Below.refl _ _).drew (Nat.le_refl _)) (h8.below (Below.refl _ _).drew (Nat.le_refl _))
              have HA := Lib.hid ha
              have HBb := Lib.hid hb
              clear hat hat' h4 h8 ha hb
              go_wp2_with fail
              go_still_tail 10, (by kernel_rfl)
              change wpList _ _ _ _ _ wr.drew
              go_wp2_with fail
              refine hcall.mono ?_
              clear hcall
              cases hq : same a b with
              | false =>
                rintro e w' ⟨rfl, hb'⟩
                have hb2 := HBW.out.drew.trans (hb'.mono hz)
                clear hb'
                go_wp2
                go_ret
                refine ⟨?_, hb2⟩
                have hf : sameAll x.list y.list = false := by
                  cases h : sameAll x.list y.list with
                  | false => rfl
                  | true => rw [(sameAll_at _ _ HL.out).1 h k a b HA.out HBb.out] at hq; cases hq
                rw [hf]; rfl
              | true =>
                rintro e w' ⟨rfl, hb'⟩
                have hb2 := Lib.hid (BW.out.drew.trans (hb'.mono (by have := BW.out.size; rw [laid2_size] at this; exact this)))
                clear hb'
                go_wp2
                go_roundg (n - (k + 1))
                case measure => omega
                case rel =>
                  refine ⟨k + 1, by omega, by omega, by go_num, hb2.out, (show Aside _ from fun j z z' hj hz hz' => ?_)⟩
                  by_cases e : j = k
                  · subst e
                    rw [HA.out] at hz; rw [HBb.out] at hz'; cases hz; cases hz'; exact hq
                  · exact A.out j z z' (by omega) hz hz'
            · have hltz : ¬ (k : Int) < (n : Int) := by omega
              have : k = n := by omega
              subst this
              have hs : sameAll x.list y.list = true := (sameAll_at _ _ HL.out).2 (fun i a b ha hb => A.out i a b (by have := (List.getElem?_eq_some_iff.1 ha).1; rw [HN.out] at this; exact this) ha hb)
              have HS := Lib.hid hs
              clear hs
              go_wp2
              go_ret
              exact ⟨by rw [HS.out]; rfl, HBW.out⟩
        · have hne : sameAll x.list y.list = false := by
            cases h : sameAll x.list y.list with
            | false => rfl
            | true => exact absurd (sameAll_length h) hl
          have h1 : ¬ (x.list.length : Int) = y.list.length := by omega
          have HNE := Lib.hid hne
          clear hne
          rw [← ht, ← hb]
          go_enter Tryd.func26, Tryd.ntmps26
          go_wp2_with fail
          go_ret
          exact ⟨by rw [HNE.out]; simp, laid2 _ _ _⟩
      · rw [← hb]
        go_enter Tryd.func26, Tryd.ntmps26
        go_wp2_with fail
        go_ret
        exact ⟨by simp [ht], laid2 _ _ _⟩
    · cases hx : x.isList <;> cases hy : y.isList
      case false.true | true.false =>
        all_goals
          go_enter Tryd.func26, Tryd.ntmps26
          go_wp2_with fail
          go_ret
          exact ⟨rfl, laid2 _ _ _⟩
      all_goals (rw [hx, hy] at hb; exact absurd rfl hb)
end Go.Proofs.YtjccllfgendpdaaDoor
