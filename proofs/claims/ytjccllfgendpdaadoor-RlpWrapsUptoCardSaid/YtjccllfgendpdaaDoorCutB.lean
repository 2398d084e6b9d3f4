/- Contract of cut: the case of a long head; all cases. -/
import Derived.Test.YtjccllfgendpdaaDoorCutA
namespace Go.Proofs.YtjccllfgendpdaaDoor
open Go.RowKit Go.Shelf Go.Lib

set_option maxRecDepth 100000 in
set_option maxHeartbeats 3200000 in
theorem cut_far (c : UInt8) (r : List UInt8) (K k : Nat) (S : ByteArray) (hS : Txt S c r) (w : World) (hlen : r.length ≤ 1099511627776) (hc : ¬ c.toNat < 128) (hKe : (c.toNat - 128) % 64 = K) (hK : K > 55) (hk : K - 55 = k) :
    Calls Tryd.prog 77 #[.string S] w fun e w' => CutIs (c :: r) e w w' := by
  obtain ⟨hsz, hne, hat, e1, e2⟩ := hS
  have h0 : 0 < S.size := by omega
  have h1 : ¬ (c.toNat : Int) < 128 := by omega
  have h2 : (128 : Int) ≤ (c.toNat : Int) := by omega
  have h3 := sub_form hc hKe
  have h4 : (55 : Int) < (K : Int) := by omega
  have h6 : (K : Int) - 55 = (k : Int) := by omega
  have hcut : cut (c :: r) = if k > r.length then Option.none
      else if (value (r.take k)).2 ≠ 0 ∨ (value (r.take k)).1 < 56 then Option.none
      else if (value (r.take k)).1 > (r.drop k).length then Option.none
      else some ((r.drop k).take (value (r.take k)).1, decide (192 ≤ c.toNat), (r.drop k).drop (value (r.take k)).1) := by
    rw [cut_cons, if_neg hc, hKe, if_pos hK, hk]
  by_cases hl : k > r.length
  · rw [if_pos hl] at hcut
    have H := Lib.hid hcut
    have h5 : (r.length : Int) < (k : Int) := by omega
    clear hcut hc hKe hK hk
    go_enter Tryd.func77, Tryd.ntmps77
    go_wp2
    refine bodyPost_ret (results_tmp4 rfl _ _ _) rfl ?_
    exact ⟨[], r, _, false, rfl, H, 0, rfl⟩
  · rw [if_neg hl] at hcut
    have h5 : ¬ (r.length : Int) < (k : Int) := by omega
    have e3 : (⟨r.toArray⟩ : ByteArray).extract 0 k = ⟨(r.take k).toArray⟩ := by rw [ext_mk]; rfl
    have e4 : (⟨r.toArray⟩ : ByteArray).extract k r.length = ⟨(r.drop k).toArray⟩ := by rw [ext_mk, List.take_length]
    have g1 : (0 : Int) ≤ k := by omega
    have g2 : (k : Int) ≤ r.length := by omega
    have hval := fun wx => value_any ⟨(r.take k).toArray⟩ wx
    have hvV : valueV (⟨(r.take k).toArray⟩ : ByteArray).data.toList = .tuple #[.int .u64 ((value (r.take k)).1 : Int), .int .i64 (value (r.take k)).2] := rfl
    rw [hvV] at hval
    have hv64 : (value (r.take k)).1 < 18446744073709551616 := by
      unfold value
      split
      · simp
      · rename_i h
        exact val_lt64 (by omega)
    obtain ⟨v, er, hv⟩ : ∃ v er, value (r.take k) = (v, er) := ⟨_, _, rfl⟩
    rw [hv] at hcut hval hv64
    simp only at hcut hval hv64
    have Hval := Lib.hid hval
    clear hval hvV hv
    by_cases hbad : er ≠ 0 ∨ v < 56
    · rw [if_pos hbad] at hcut
      have H := Lib.hid hcut
      clear hcut hc hKe hK hk
      by_cases her : er = 0
      · subst her
        have h7 : (v : Int) < 56 := by have := hbad.resolve_left (by simp); omega
        clear hbad
        go_enter Tryd.func77, Tryd.ntmps77
        go_wp2_with fail
        refine (Hval.out _).mono ?_
        rintro e w1 ⟨rfl, rfl⟩
        go_wp2
        refine bodyPost_ret (results_tmp4 rfl _ _ _) rfl ?_
        exact ⟨[], r, _, false, rfl, H, 0, rfl⟩
      · clear hbad
        go_enter Tryd.func77, Tryd.ntmps77
        go_wp2_with fail
        refine (Hval.out _).mono ?_
        rintro e w1 ⟨rfl, rfl⟩
        go_wp2
        refine bodyPost_ret (results_tmp4 rfl _ _ _) rfl ?_
        exact ⟨[], r, _, false, rfl, H, 0, rfl⟩
    · rw [if_neg hbad] at hcut
      obtain rfl : er = 0 := by
        by_cases h : er = 0
        · exact h
        · exact absurd (.inl h) hbad
      have h7 : ¬ (v : Int) < 56 := by have : ¬ v < 56 := fun h => hbad (.inr h); omega
      clear hbad
      obtain ⟨T, hT⟩ : ∃ T, r.drop k = T := ⟨_, rfl⟩
      have hTl : T.length ≤ 1099511627776 := by rw [← hT, List.length_drop]; omega
      rw [hT] at hcut e4
      clear hT
      by_cases hn : v > T.length
      · rw [if_pos hn] at hcut
        have h8 : (T.length : Int) < (v : Int) := by omega
        have H := Lib.hid hcut
        clear hcut hc hKe hK hk
        go_enter Tryd.func77, Tryd.ntmps77
        go_wp2_with fail
        refine (Hval.out _).mono ?_
        rintro e w1 ⟨rfl, rfl⟩
        go_wp2
        go_quiet (fail)
        go_wp2
        refine bodyPost_ret (results_tmp4 rfl _ _ _) rfl ?_
        exact ⟨[], T, _, false, rfl, H, _, rfl⟩
      · rw [if_neg hn] at hcut
        have h8 : ¬ (T.length : Int) < (v : Int) := by omega
        have e5 : (⟨T.toArray⟩ : ByteArray).extract 0 v = ⟨(T.take v).toArray⟩ := by rw [ext_mk]; rfl
        have e6 : (⟨T.toArray⟩ : ByteArray).extract v T.length = ⟨(T.drop v).toArray⟩ := by rw [ext_mk, List.take_length]
        have g3 : (0 : Int) ≤ v := by omega
        have g4 : (v : Int) ≤ T.length := by omega
        have g5 : ((v : Int) != 1) = true := by simp; omega
        rcases (by omega : 192 ≤ c.toNat ∨ ¬ 192 ≤ c.toNat) with hls | hls
        · rw [decide_eq_true hls] at hcut
          have hd : decide ((192 : Int) ≤ (c.toNat : Int)) = true := by simp; omega
          have H := Lib.hid hcut
          clear hcut hc hKe hK hk
          go_enter Tryd.func77, Tryd.ntmps77
          go_wp2_with fail
          refine (Hval.out _).mono ?_
          rintro e w1 ⟨rfl, rfl⟩
          go_wp2
          go_quiet (fail)
          go_wp2
          go_quiet (fail)
          go_wp2
          go_quiet (fail)
          go_wp2
          refine bodyPost_ret (results_tmp4 rfl _ _ _) rfl ?_
          exact ⟨_, _, true, true, rfl, H, _, by rw [drewN_add, drewN_add]⟩
        · rw [decide_eq_false hls] at hcut
          have hd : decide ((192 : Int) ≤ (c.toNat : Int)) = false := by simp; omega
          have H := Lib.hid hcut
          clear hcut hc hKe hK hk
          go_enter Tryd.func77, Tryd.ntmps77
          go_wp2_with fail
          refine (Hval.out _).mono ?_
          rintro e w1 ⟨rfl, rfl⟩
          go_wp2
          go_quiet (fail)
          go_wp2
          go_quiet (fail)
          go_wp2
          go_quiet (fail)
          go_wp2
          refine bodyPost_ret (results_tmp4 rfl _ _ _) rfl ?_
          exact ⟨_, _, false, true, rfl, H, _, by rw [drewN_add, drewN_add]⟩

/-- cut, of any text -/
theorem cut_any (l : List UInt8) (w : World) (hlen : l.length ≤ 1099511627776) : Calls Tryd.prog 77 #[.string ⟨l.toArray⟩] w fun e w' => CutIs l e w w' := by
  cases l with
  | nil => exact cut_nil w
  | cons c r =>
    have hS := txt c r
    have hr : r.length ≤ 1099511627776 := by simp only [List.length_cons] at hlen; omega
    by_cases h1 : c.toNat < 128
    · exact cut_low c r _ hS w hr h1
    · by_cases h2 : (c.toNat - 128) % 64 > 55
      · exact cut_far c r _ _ _ hS w hr h1 rfl h2 rfl
      · exact cut_brief c r _ _ hS w hr h1 rfl h2
end Go.Proofs.YtjccllfgendpdaaDoor
