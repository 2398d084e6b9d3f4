/- Contract of the reference's measure: the case of a long head; all cases. -/
import Derived.Test.YtjccllfgendpdaaDoorMeaA
namespace Go.Proofs.YtjccllfgendpdaaDoor
open Go.RowKit Go.Shelf Go.Lib

set_option maxRecDepth 100000 in
set_option maxHeartbeats 6400000 in
theorem meas_far (l : List UInt8) (c : UInt8) (r : List UInt8) (a K k : Nat) (S : ByteArray) (hS : TxtAt S a c r) (hd : l.drop a = c :: r) (hl : l.length = a + (r.length + 1)) (w : World) (hlen : l.length ≤ 1099511627776) (hc : ¬ c.toNat < 128) (hKe : (c.toNat - 128) % 64 = K) (hK : K > 55) (hk : K - 55 = k) :
    Calls Tryd.prog 66 #[.string S, .int .i64 a] w fun e w' => MeasIs l a e w w' := by
  obtain ⟨hsz, hat, -, hcu⟩ := hS
  have h0 : a < S.size := by omega
  have g1 : (0 : Int) ≤ a := by omega
  have g2 : ¬ (S.size : Int) ≤ (a : Int) := by omega
  have g3 : (a : Int) < S.size := by omega
  have h1 : ¬ (c.toNat : Int) < 128 := by omega
  have h2 : IntKind.i64.wrap ((a : Int) + 1) = (a : Int) + 1 := by rw [IntKind.wrap_i64]; omega
  have h5 : ¬ (K : Int) < 56 := by omega
  have hK64 : K < 64 := by omega
  have h6 : IntKind.i64.wrap ((a : Int) + 1 + K) = (a : Int) + 1 + K := by rw [IntKind.wrap_i64]; omega
  have h7 : (a : Int) + 1 + K - 55 = (a : Int) + 1 + k := by omega
  have h8 : IntKind.i64.wrap ((a : Int) + 1 + k) = (a : Int) + 1 + k := by rw [IntKind.wrap_i64]; omega
  have hcut : cut (l.drop a) = if k > r.length then Option.none
      else if (value (r.take k)).2 ≠ 0 ∨ (value (r.take k)).1 < 56 then Option.none
      else if (value (r.take k)).1 > (r.drop k).length then Option.none
      else some ((r.drop k).take (value (r.take k)).1, decide (192 ≤ c.toNat), (r.drop k).drop (value (r.take k)).1) := by
    rw [hd, cut_cons, if_neg hc, hKe, if_pos hK, hk]
  have hB : ∃ B : Bool, decide (192 ≤ c.toNat) = B ∧ decide ((192 : Int) ≤ (c.toNat : Int)) = B ∧ (B = true → (c.toNat : Int) - 192 = K) ∧ (B = false → (c.toNat : Int) - 128 = K) := by
    refine ⟨decide (192 ≤ c.toNat), rfl, ?_, ?_, ?_⟩
    · by_cases h : 192 ≤ c.toNat
      · rw [decide_eq_true h]; simp; omega
      · rw [decide_eq_false h]; simp; omega
    · intro h; have := of_decide_eq_true h; have := c.toNat_lt; omega
    · intro h; have := of_decide_eq_false h; omega
  obtain ⟨B, hB1, hB2, hB3, hB4⟩ := hB
  rw [hB1] at hcut
  by_cases hr : k > r.length
  · rw [if_pos hr] at hcut
    have h9 : (a : Int) + ((r.length : Int) + 1) < (a : Int) + 1 + k := by omega
    have H := Lib.hid hcut
    clear hcut hc hKe hK hk hd hB1 hcu
    cases B
    · have h3 := hB4 rfl
      clear hB3 hB4
      go_enter Tryd.func66, Tryd.ntmps66
      go_wp2
      refine bodyPost_ret (results_tmp4 rfl _ _ _) rfl ?_
      exact .inr ⟨_, _, _, rfl, H, 0, rfl⟩
    · have h3 := hB3 rfl
      clear hB3 hB4
      go_enter Tryd.func66, Tryd.ntmps66
      go_wp2
      refine bodyPost_ret (results_tmp4 rfl _ _ _) rfl ?_
      exact .inr ⟨_, _, _, rfl, H, 0, rfl⟩
  · rw [if_neg hr] at hcut
    have h9 : ¬ (a : Int) + ((r.length : Int) + 1) < (a : Int) + 1 + k := by omega
    have e3 := hcu k
    have g4 : (0 : Int) ≤ (a : Int) + 1 := by omega
    have g5 : ((a : Int) + 1).toNat = a + 1 := by omega
    have g6 : (0 : Int) ≤ (a : Int) + 1 + k := by omega
    have g7 : ((a : Int) + 1 + k).toNat = a + 1 + k := by omega
    have g8 : (a : Int) + 1 ≤ (a : Int) + 1 + k := by omega
    have g9 : (a : Int) + 1 + k ≤ (a : Int) + ((r.length : Int) + 1) := by omega
    have hval := fun wx => valueRef_any ⟨(r.take k).toArray⟩ wx
    have hvV : valueV (⟨(r.take k).toArray⟩ : ByteArray).data.toList = .tuple #[.int .u64 ((value (r.take k)).1 : Int), .int .i64 (value (r.take k)).2] := rfl
    rw [hvV] at hval
    have hv64 : (value (r.take k)).1 < 18446744073709551616 := by
      unfold value
      split
      · simp
      · rename_i h
        exact val_lt64 (by omega)
    obtain ⟨v, er, hv⟩ : ∃ v er, value (r.take k) = (v, er) := ⟨_, _, rfl⟩
    rw [hv] at hcut hval hv64
    simp only at hcut hval hv64
    have Hval := Lib.hid hval
    clear hval hvV hv hcu
    have hdl : (r.drop k).length = r.length - k := List.length_drop ..
    rw [hdl] at hcut
    obtain ⟨d, hdd⟩ : ∃ d, r.length - k = d := ⟨_, rfl⟩
    rw [hdd] at hcut
    have h10 : (a : Int) + ((r.length : Int) + 1) - ((a : Int) + 1 + k) = (d : Int) := by omega
    by_cases hbad : (er ≠ 0 ∨ v < 56) ∨ v > d
    · have hcn : cut (l.drop a) = Option.none := by
        rw [hcut]
        by_cases hx : er ≠ 0 ∨ v < 56
        · rw [if_pos hx]
        · rw [if_neg hx, if_pos (hbad.resolve_left hx)]
      have H := Lib.hid hcn
      clear hcut hcn hc hKe hK hk hd hB1 hdl
      by_cases her : er = 0
      · subst her
        by_cases h56 : v < 56
        · have h11 : (v : Int) < 56 := by omega
          clear hbad
          cases B
          all_goals
            first
              | have h3 := hB4 rfl
              | have h3 := hB3 rfl
            clear hB3 hB4
            go_enter Tryd.func66, Tryd.ntmps66
            go_wp2_with fail
            refine (Hval.out _).mono ?_
            rintro e w1 ⟨rfl, rfl⟩
            go_wp2
            refine bodyPost_ret (results_tmp4 rfl _ _ _) rfl ?_
            exact .inr ⟨_, _, _, rfl, H, 0, rfl⟩
        · have h11 : ¬ (v : Int) < 56 := by omega
          have h12 : (d : Int) < (v : Int) := by
            rcases hbad with (h | h) | h
            · exact absurd rfl h
            · exact absurd h h56
            · omega
          clear hbad
          cases B
          all_goals
            first
              | have h3 := hB4 rfl
              | have h3 := hB3 rfl
            clear hB3 hB4
            go_enter Tryd.func66, Tryd.ntmps66
            go_wp2_with fail
            refine (Hval.out _).mono ?_
            rintro e w1 ⟨rfl, rfl⟩
            go_wp2
            refine bodyPost_ret (results_tmp4 rfl _ _ _) rfl ?_
            exact .inr ⟨_, _, _, rfl, H, 0, rfl⟩
      · clear hbad
        cases B
        all_goals
          first
            | have h3 := hB4 rfl
            | have h3 := hB3 rfl
          clear hB3 hB4
          go_enter Tryd.func66, Tryd.ntmps66
          go_wp2_with fail
          refine (Hval.out _).mono ?_
          rintro e w1 ⟨rfl, rfl⟩
          go_wp2
          refine bodyPost_ret (results_tmp4 rfl _ _ _) rfl ?_
          exact .inr ⟨_, _, _, rfl, H, 0, rfl⟩
    · have hb1 : ¬ (er ≠ 0 ∨ v < 56) := fun h => hbad (.inl h)
      have hb2 : ¬ v > d := fun h => hbad (.inr h)
      rw [if_neg hb1, if_neg hb2] at hcut
      obtain rfl : er = 0 := by
        by_cases h : er = 0
        · exact h
        · exact absurd (.inl h) hb1
      have h11 : ¬ (v : Int) < 56 := by have : ¬ v < 56 := fun h => hb1 (.inr h); omega
      have h12 : ¬ (d : Int) < (v : Int) := by omega
      have h13 : IntKind.i64.wrap (v : Int) = (v : Int) := by rw [IntKind.wrap_i64]; omega
      have h14 : IntKind.i64.wrap ((a : Int) + 1 + k + v) = (a : Int) + 1 + k + v := by rw [IntKind.wrap_i64]; omega
      have H : Hid (a ≤ a + 1 + k ∧ a + 1 + k ≤ a + 1 + k + v ∧ a < a + 1 + k + v ∧ a + 1 + k + v ≤ l.length ∧ cut (l.drop a) = some ((l.drop (a + 1 + k)).take (a + 1 + k + v - (a + 1 + k)), B, l.drop (a + 1 + k + v))) := Lib.hid ⟨by omega, by omega, by omega, by omega, by
        rw [hcut, ← List.drop_drop (l := l) (i := v) (j := a + 1 + k), drops hd, Nat.add_sub_cancel_left]⟩
      clear hbad hb1 hb2 hcut hc hKe hK hk hd hB1 hdl
      cases B
      all_goals
        first
          | have h3 := hB4 rfl
          | have h3 := hB3 rfl
        clear hB3 hB4
        go_enter Tryd.func66, Tryd.ntmps66
        go_wp2_with fail
        refine (Hval.out _).mono ?_
        rintro e w1 ⟨rfl, rfl⟩
        go_wp2
        refine bodyPost_ret (results_tmp4 rfl _ _ _) rfl ?_
        exact .inl ⟨a + 1 + k, a + 1 + k + v, _, rfl, H, 0, rfl⟩

/-- measure, of any text and place -/
theorem meas_any (l : List UInt8) (a : Nat) (w : World) (hlen : l.length ≤ 1099511627776) : Calls Tryd.prog 66 #[.string ⟨l.toArray⟩, .int .i64 a] w fun e w' => MeasIs l a e w w' := by
  by_cases h : l.length ≤ a
  · exact meas_past l a w h
  · have hsplit : l = l.take a ++ l.drop a := (List.take_append_drop a l).symm
    obtain ⟨c, r, hd⟩ : ∃ c r, l.drop a = c :: r := by
      cases hx : l.drop a with
      | nil => have := List.drop_eq_nil_iff.1 hx; omega
      | cons c r => exact ⟨c, r, rfl⟩
    have hal : (l.take a).length = a := by rw [List.length_take]; omega
    have hS := txtAt (l.take a) c r
    rw [hal, ← hd, ← hsplit] at hS
    have hl : l.length = a + (r.length + 1) := by
      have := congrArg List.length hd
      rw [List.length_drop, List.length_cons] at this
      omega
    by_cases h1 : c.toNat < 128
    · exact meas_low l c r a _ hS hd hl w hlen h1
    · by_cases h2 : (c.toNat - 128) % 64 > 55
      · exact meas_far l c r a _ _ _ hS hd hl w hlen h1 rfl h2 rfl
      · exact meas_brief l c r a _ _ hS hd hl w hlen h1 rfl h2
end Go.Proofs.YtjccllfgendpdaaDoor
