/- Contract of the reference's measure: where an item's inside begins and ends. -/
import Derived.Test.YthicdhnjincflaaDoorCutB
namespace Go.Proofs.YthicdhnjincflaaDoor
open Go.RowKit Go.Shelf Go.Lib

/-- a text with a byte c at the place a, and r behind it -/
structure TxtAt (S : ByteArray) (a : Nat) (c : UInt8) (r : List UInt8) : Prop where
  size : S.size = a + (r.length + 1)
  here : ∀ h, S[a]'h = c
  next : ∀ b r', r = b :: r' → ∀ h, S[a + 1]'h = b
  cutout : ∀ k, S.extract (a + 1) (a + 1 + k) = ⟨(r.take k).toArray⟩
theorem txtAt (A : List UInt8) (c : UInt8) (r : List UInt8) : TxtAt ⟨(A ++ c :: r).toArray⟩ A.length c r := by
  refine ⟨by rw [size_mk]; simp, fun h => ?_, fun b r' hr h => ?_, fun k => ?_⟩
  · show (A ++ c :: r).toArray[A.length] = c
    simp
  · subst hr
    show (A ++ c :: b :: r').toArray[A.length + 1] = b
    simp [List.getElem_append_right]
  · rw [ext_mk]
    congr 2
    rw [show A ++ c :: r = (A ++ [c]) ++ r from by simp, show A.length + 1 + k = (A ++ [c]).length + k from by simp, List.take_length_add_append, show A.length + 1 = (A ++ [c]).length from by simp, List.drop_left]

/-- what measure gives of an item at the place a, in a text l -/
def MeasIs (l : List UInt8) (a : Nat) (e : Ending) (w w' : World) : Prop :=
  (∃ (f t : Nat) (b : Bool), e = .returned (.tuple #[.int .i64 f, .int .i64 t, .bool b, .bool true]) ∧ Hid (a ≤ f ∧ f ≤ t ∧ a < t ∧ t ≤ l.length ∧ cut (l.drop a) = some ((l.drop f).take (t - f), b, l.drop t)) ∧ ∃ n, w' = w.drewN n) ∨
  (∃ (f t : Int) (b : Bool), e = .returned (.tuple #[.int .i64 f, .int .i64 t, .bool b, .bool false]) ∧ Hid (cut (l.drop a) = Option.none) ∧ ∃ n, w' = w.drewN n)

set_option maxRecDepth 100000 in
set_option maxHeartbeats 1600000 in
theorem meas_past (l : List UInt8) (a : Nat) (w : World) (h : l.length ≤ a) :
    Calls Tryd.prog 120 #[.string ⟨l.toArray⟩, .int .i64 a] w fun e w' => MeasIs l a e w w' := by
  have h1 : (l.length : Int) ≤ (a : Int) := by omega
  have H : Hid (cut (l.drop a) = Option.none) := Lib.hid (by rw [List.drop_eq_nil_of_le h]; rfl)
  go_enter Tryd.func120, Tryd.ntmps120
  go_wp2
  refine bodyPost_ret (results_tmp4 rfl _ _ _) rfl ?_
  exact .inr ⟨0, 0, false, rfl, H, 0, rfl⟩

set_option maxRecDepth 100000 in
set_option maxHeartbeats 3200000 in
theorem meas_low (l : List UInt8) (c : UInt8) (r : List UInt8) (a : Nat) (S : ByteArray) (hS : TxtAt S a c r) (hd : l.drop a = c :: r) (hl : l.length = a + (r.length + 1)) (w : World) (hlen : l.length ≤ 1099511627776) (hc : c.toNat < 128) :
    Calls Tryd.prog 120 #[.string S, .int .i64 a] w fun e w' => MeasIs l a e w w' := by
  obtain ⟨hsz, hat, -, -⟩ := hS
  have h0 : a < S.size := by omega
  have g1 : (0 : Int) ≤ a := by omega
  have g2 : ¬ (S.size : Int) ≤ (a : Int) := by omega
  have g3 : (a : Int) < S.size := by omega
  have h1 : (c.toNat : Int) < 128 := by omega
  have h2 : IntKind.i64.wrap ((a : Int) + 1) = (a : Int) + 1 := by rw [IntKind.wrap_i64]; omega
  have H : Hid (a ≤ a ∧ a ≤ a + 1 ∧ a < a + 1 ∧ a + 1 ≤ l.length ∧ cut (l.drop a) = some ((l.drop a).take (a + 1 - a), false, l.drop (a + 1))) := Lib.hid ⟨by omega, by omega, by omega, by omega, by
    rw [← List.drop_drop, hd, cut_cons, if_pos hc, Nat.add_sub_cancel_left]; rfl⟩
  clear hc hd
  go_enter Tryd.func120, Tryd.ntmps120
  go_wp2
  refine bodyPost_ret (results_tmp4 rfl _ _ _) rfl ?_
  exact .inl ⟨a, a + 1, false, rfl, H, 0, rfl⟩

theorem drops {l : List UInt8} {a : Nat} {c : UInt8} {r : List UInt8} (hd : l.drop a = c :: r) (k : Nat) : l.drop (a + 1 + k) = r.drop k := by
  rw [← List.drop_drop, ← List.drop_drop, hd]; rfl
theorem drops0 {l : List UInt8} {a : Nat} {c : UInt8} {r : List UInt8} (hd : l.drop a = c :: r) : l.drop (a + 1) = r := by
  rw [← List.drop_drop, hd]; rfl

set_option maxRecDepth 100000 in
set_option maxHeartbeats 3200000 in
theorem meas_brief (l : List UInt8) (c : UInt8) (r : List UInt8) (a k : Nat) (S : ByteArray) (hS : TxtAt S a c r) (hd : l.drop a = c :: r) (hl : l.length = a + (r.length + 1)) (w : World) (hlen : l.length ≤ 1099511627776) (hc : ¬ c.toNat < 128) (hke : (c.toNat - 128) % 64 = k) (hk : ¬ k > 55) :
    Calls Tryd.prog 120 #[.string S, .int .i64 a] w fun e w' => MeasIs l a e w w' := by
  obtain ⟨hsz, hat, hnx, -⟩ := hS
  have h0 : a < S.size := by omega
  have g1 : (0 : Int) ≤ a := by omega
  have g2 : ¬ (S.size : Int) ≤ (a : Int) := by omega
  have g3 : (a : Int) < S.size := by omega
  have h1 : ¬ (c.toNat : Int) < 128 := by omega
  have h2 : IntKind.i64.wrap ((a : Int) + 1) = (a : Int) + 1 := by rw [IntKind.wrap_i64]; omega
  have h5 : (k : Int) < 56 := by omega
  have h6 : IntKind.i64.wrap ((a : Int) + 1 + k) = (a : Int) + 1 + k := by rw [IntKind.wrap_i64]; omega
  have hcut : cut (l.drop a) = if k > r.length then Option.none else if c.toNat < 192 ∧ k = 1 ∧ (r.headD 0).toNat < 128 then Option.none else some (r.take k, decide (192 ≤ c.toNat), r.drop k) := by
    rw [hd, cut_cons, if_neg hc, hke, if_neg hk]
  have hgood : ∀ (b : Bool), ¬ k > r.length → cut (l.drop a) = some (r.take k, b, r.drop k) → Hid (a ≤ a + 1 ∧ a + 1 ≤ a + 1 + k ∧ a < a + 1 + k ∧ a + 1 + k ≤ l.length ∧ cut (l.drop a) = some ((l.drop (a + 1)).take (a + 1 + k - (a + 1)), b, l.drop (a + 1 + k))) := fun b hr hcu => Lib.hid ⟨by omega, by omega, by omega, by omega, by
    rw [hcu, drops hd, drops0 hd, Nat.add_sub_cancel_left]⟩
  have HG := Lib.hid hgood
  clear hgood
  by_cases hls : 192 ≤ c.toNat
  · have h3 : (c.toNat : Int) - 192 = k := by have := c.toNat_lt; omega
    have h4 : decide ((192 : Int) ≤ (c.toNat : Int)) = true := by simp; omega
    by_cases hr : k > r.length
    · rw [if_pos hr] at hcut
      have h7 : ¬ (a : Int) + 1 + k ≤ (a : Int) + ((r.length : Int) + 1) := by omega
      have H := Lib.hid hcut
      clear hcut hc hke hk hls hd
      go_enter Tryd.func120, Tryd.ntmps120
      go_wp2
      refine bodyPost_ret (results_tmp4 rfl _ _ _) rfl ?_
      exact .inr ⟨_, _, _, rfl, H, 0, rfl⟩
    · rw [if_neg hr, if_neg (by omega), decide_eq_true hls] at hcut
      have h7 : (a : Int) + 1 + k ≤ (a : Int) + ((r.length : Int) + 1) := by omega
      have H := HG.out true hr hcut
      clear hcut hc hke hk hls hd
      go_enter Tryd.func120, Tryd.ntmps120
      go_wp2
      refine bodyPost_ret (results_tmp4 rfl _ _ _) rfl ?_
      exact .inl ⟨a + 1, a + 1 + k, true, rfl, H, 0, rfl⟩
  · have h3 : (c.toNat : Int) - 128 = k := by omega
    have h4 : decide ((192 : Int) ≤ (c.toNat : Int)) = false := by simp; omega
    by_cases hr : k > r.length
    · rw [if_pos hr] at hcut
      have h7 : ¬ (a : Int) + 1 + k ≤ (a : Int) + ((r.length : Int) + 1) := by omega
      have h8 : decide ((a : Int) + 1 + k ≤ (a : Int) + ((r.length : Int) + 1)) = false := by simp only [decide_eq_false_iff_not]; exact h7
      have H := Lib.hid hcut
      clear hcut hc hke hk hls hd
      go_enter Tryd.func120, Tryd.ntmps120
      go_wp2
      all_goals
        refine bodyPost_ret (results_tmp4 rfl _ _ _) rfl ?_
        exact .inr ⟨_, _, _, rfl, H, 0, rfl⟩
    · rw [if_neg hr, decide_eq_false hls] at hcut
      have h7 : (a : Int) + 1 + k ≤ (a : Int) + ((r.length : Int) + 1) := by omega
      by_cases hk1 : k = 1
      · subst hk1
        cases r with
        | nil => exact absurd (by simp : 1 > ([] : List UInt8).length) hr
        | cons b r' =>
          have hnx' := hnx b r' rfl
          have h9 : a + 1 < S.size := by rw [hsz, List.length_cons]; omega
          have g4 : (0 : Int) ≤ (a : Int) + 1 := by omega
          have g5 : ((a : Int) + 1).toNat = a + 1 := by omega
          have g6 : (a : Int) + 1 < S.size := by omega
          simp only [List.headD_cons, true_and] at hcut
          by_cases hb : b.toNat < 128
          · rw [if_pos ⟨by omega, hb⟩] at hcut
            have hb' : (b.toNat : Int) < 128 := by omega
            have H := Lib.hid hcut
            clear hcut hc hke hk hls hd hnx
            go_enter Tryd.func120, Tryd.ntmps120
            go_wp2
            refine bodyPost_ret (results_tmp4 rfl _ _ _) rfl ?_
            exact .inr ⟨_, _, _, rfl, H, 0, rfl⟩
          · rw [if_neg (fun h => hb h.2)] at hcut
            have hb' : ¬ (b.toNat : Int) < 128 := by omega
            have H := HG.out false hr hcut
            clear hcut hc hke hk hls hd hnx
            go_enter Tryd.func120, Tryd.ntmps120
            go_wp2
            refine bodyPost_ret (results_tmp4 rfl _ _ _) rfl ?_
            exact .inl ⟨a + 1, a + 1 + 1, false, rfl, H, 0, rfl⟩
      · rw [if_neg (fun h => hk1 h.2.1)] at hcut
        have hk2 : ((k : Int) == 1) = false := by simp; omega
        have H := HG.out false hr hcut
        clear hcut hc hke hk hls hd
        go_enter Tryd.func120, Tryd.ntmps120
        go_wp2
        refine bodyPost_ret (results_tmp4 rfl _ _ _) rfl ?_
        exact .inl ⟨a + 1, a + 1 + k, false, rfl, H, 0, rfl⟩
end Go.Proofs.YthicdhnjincflaaDoor
/- Contract of the reference's measure: the case of a long head; all cases. -/
namespace Go.Proofs.YthicdhnjincflaaDoor
open Go.RowKit Go.Shelf Go.Lib

set_option maxRecDepth 100000 in
set_option maxHeartbeats 6400000 in
theorem meas_far (l : List UInt8) (c : UInt8) (r : List UInt8) (a K k : Nat) (S : ByteArray) (hS : TxtAt S a c r) (hd : l.drop a = c :: r) (hl : l.length = a + (r.length + 1)) (w : World) (hlen : l.length ≤ 1099511627776) (hc : ¬ c.toNat < 128) (hKe : (c.toNat - 128) % 64 = K) (hK : K > 55) (hk : K - 55 = k) :
    Calls Tryd.prog 120 #[.string S, .int .i64 a] w fun e w' => MeasIs l a e w w' := by
  obtain ⟨hsz, hat, -, hcu⟩ := hS
  have h0 : a < S.size := by omega
  have g1 : (0 : Int) ≤ a := by omega
  have g2 : ¬ (S.size : Int) ≤ (a : Int) := by omega
  have g3 : (a : Int) < S.size := by omega
  have h1 : ¬ (c.toNat : Int) < 128 := by omega
  have h2 : IntKind.i64.wrap ((a : Int) + 1) = (a : Int) + 1 := by rw [IntKind.wrap_i64]; omega
  have h5 : ¬ (K : Int) < 56 := by omega
  have hK64 : K < 64 := by omega
  have h6 : IntKind.i64.wrap ((a : Int) + 1 + K) = (a : Int) + 1 + K := by rw [IntKind.wrap_i64]; omega
  have h7 : (a : Int) + 1 + K - 55 = (a : Int) + 1 + k := by omega
  have h8 : IntKind.i64.wrap ((a : Int) + 1 + k) = (a : Int) + 1 + k := by rw [IntKind.wrap_i64]; omega
  have hcut : cut (l.drop a) = if k > r.length then Option.none
      else if (value (r.take k)).2 ≠ 0 ∨ (value (r.take k)).1 < 56 then Option.none
      else if (value (r.take k)).1 > (r.drop k).length then Option.none
      else some ((r.drop k).take (value (r.take k)).1, decide (192 ≤ c.toNat), (r.drop k).drop (value (r.take k)).1) := by
    rw [hd, cut_cons, if_neg hc, hKe, if_pos hK, hk]
  have hB : ∃ B : Bool, decide (192 ≤ c.toNat) = B ∧ decide ((192 : Int) ≤ (c.toNat : Int)) = B ∧ (B = true → (c.toNat : Int) - 192 = K) ∧ (B = false → (c.toNat : Int) - 128 = K) := by
    refine ⟨decide (192 ≤ c.toNat), rfl, ?_, ?_, ?_⟩
    · by_cases h : 192 ≤ c.toNat
      · rw [decide_eq_true h]; simp; omega
      · rw [decide_eq_false h]; simp; omega
    · intro h; have := of_decide_eq_true h; have := c.toNat_lt; omega
    · intro h; have := of_decide_eq_false h; omega
  obtain ⟨B, hB1, hB2, hB3, hB4⟩ := hB
  rw [hB1] at hcut
  by_cases hr : k > r.length
  · rw [if_pos hr] at hcut
    have h9 : (a : Int) + ((r.length : Int) + 1) < (a : Int) + 1 + k := by omega
    have H := Lib.hid hcut
    clear hcut hc hKe hK hk hd hB1 hcu
    cases B
    · have h3 := hB4 rfl
      clear hB3 hB4
      go_enter Tryd.func120, Tryd.ntmps120
      go_wp2
      refine bodyPost_ret (results_tmp4 rfl _ _ _) rfl ?_
      exact .inr ⟨_, _, _, rfl, H, 0, rfl⟩
    · have h3 := hB3 rfl
      clear hB3 hB4
      go_enter Tryd.func120, Tryd.ntmps120
      go_wp2
      refine bodyPost_ret (results_tmp4 rfl _ _ _) rfl ?_
      exact .inr ⟨_, _, _, rfl, H, 0, rfl⟩
  · rw [if_neg hr] at hcut
    have h9 : ¬ (a : Int) + ((r.length : Int) + 1) < (a : Int) + 1 + k := by omega
    have e3 := hcu k
    have g4 : (0 : Int) ≤ (a : Int) + 1 := by omega
    have g5 : ((a : Int) + 1).toNat = a + 1 := by omega
    have g6 : (0 : Int) ≤ (a : Int) + 1 + k := by omega
    have g7 : ((a : Int) + 1 + k).toNat = a + 1 + k := by omega
    have g8 : (a : Int) + 1 ≤ (a : Int) + 1 + k := by omega
    have g9 : (a : Int) + 1 + k ≤ (a : Int) + ((r.length : Int) + 1) := by omega
    have hval := fun wx => valueRef_any ⟨(r.take k).toArray⟩ wx
    have hvV : valueV (⟨(r.take k).toArray⟩ : ByteArray).data.toList = .tuple #[.int .u64 ((value (r.take k)).1 : Int), .int .i64 (value (r.take k)).2] := rfl
    rw [hvV] at hval
    have hv64 : (value (r.take k)).1 < 18446744073709551616 := by
      unfold value
      split
      · simp
      · rename_i h
        exact val_lt64 (by omega)
    obtain ⟨v, er, hv⟩ : ∃ v er, value (r.take k) = (v, er) := ⟨_, _, rfl⟩
    rw [hv] at hcut hval hv64
    simp only at hcut hval hv64
    have Hval := Lib.hid hval
    clear hval hvV hv hcu
    have hdl : (r.drop k).length = r.length - k := List.length_drop ..
    rw [hdl] at hcut
    obtain ⟨d, hdd⟩ : ∃ d, r.length - k = d := ⟨_, rfl⟩
    rw [hdd] at hcut
    have h10 : (a : Int) + ((r.length : Int) + 1) - ((a : Int) + 1 + k) = (d : Int) := by omega
    by_cases hbad : (er ≠ 0 ∨ v < 56) ∨ v > d
    · have hcn : cut (l.drop a) = Option.none := by
        rw [hcut]
        by_cases hx : er ≠ 0 ∨ v < 56
        · rw [if_pos hx]
        · rw [if_neg hx, if_pos (hbad.resolve_left hx)]
      have H := Lib.hid hcn
      clear hcut hcn hc hKe hK hk hd hB1 hdl
      by_cases her : er = 0
      · subst her
        by_cases h56 : v < 56
        · have h11 : (v : Int) < 56 := by omega
          clear hbad
          cases B
          all_goals
            first
              | have h3 := hB4 rfl
              | have h3 := hB3 rfl
            clear hB3 hB4
            go_enter Tryd.func120, Tryd.ntmps120
            go_wp2_with fail
            refine (Hval.out _).mono ?_
            rintro e w1 ⟨rfl, rfl⟩
            go_wp2
            refine bodyPost_ret (results_tmp4 rfl _ _ _) rfl ?_
            exact .inr ⟨_, _, _, rfl, H, 0, rfl⟩
        · have h11 : ¬ (v : Int) < 56 := by omega
          have h12 : (d : Int) < (v : Int) := by
            rcases hbad with (h | h) | h
            · exact absurd rfl h
            · exact absurd h h56
            · omega
          clear hbad
          cases B
          all_goals
            first
              | have h3 := hB4 rfl
              | have h3 := hB3 rfl
            clear hB3 hB4
            go_enter Tryd.func120, Tryd.ntmps120
            go_wp2_with fail
            refine (Hval.out _).mono ?_
            rintro e w1 ⟨rfl, rfl⟩
            go_wp2
            refine bodyPost_ret (results_tmp4 rfl _ _ _) rfl ?_
            exact .inr ⟨_, _, _, rfl, H, 0, rfl⟩
      · clear hbad
        cases B
        all_goals
          first
            | have h3 := hB4 rfl
            | have h3 := hB3 rfl
          clear hB3 hB4
          go_enter Tryd.func120, Tryd.ntmps120
          go_wp2_with fail
          refine (Hval.out _).mono ?_
          rintro e w1 ⟨rfl, rfl⟩
          go_wp2
          refine bodyPost_ret (results_tmp4 rfl _ _ _) rfl ?_
          exact .inr ⟨_, _, _, rfl, H, 0, rfl⟩
    · have hb1 : ¬ (er ≠ 0 ∨ v < 56) := fun h => hbad (.inl h)
      have hb2 : ¬ v > d := fun h => hbad (.inr h)
      rw [if_neg hb1, if_neg hb2] at hcut
      obtain rfl : er = 0 := by
        by_cases h : er = 0
        · exact h
        · exact absurd (.inl h) hb1
      have h11 : ¬ (v : Int) < 56 := by have : ¬ v < 56 := fun h => hb1 (.inr h); omega
      have h12 : ¬ (d : Int) < (v : Int) := by omega
      have h13 : IntKind.i64.wrap (v : Int) = (v : Int) := by rw [IntKind.wrap_i64]; omega
      have h14 : IntKind.i64.wrap ((a : Int) + 1 + k + v) = (a : Int) + 1 + k + v := by rw [IntKind.wrap_i64]; omega
      have H : Hid (a ≤ a + 1 + k ∧ a + 1 + k ≤ a + 1 + k + v ∧ a < a + 1 + k + v ∧ a + 1 + k + v ≤ l.length ∧ cut (l.drop a) = some ((l.drop (a + 1 + k)).take (a + 1 + k + v - (a + 1 + k)), B, l.drop (a + 1 + k + v))) := Lib.hid ⟨by omega, by omega, by omega, by omega, by
        rw [hcut, ← List.drop_drop (l := l) (i := v) (j := a + 1 + k), drops hd, Nat.add_sub_cancel_left]⟩
      clear hbad hb1 hb2 hcut hc hKe hK hk hd hB1 hdl
      cases B
      all_goals
        first
          | have h3 := hB4 rfl
          | have h3 := hB3 rfl
        clear hB3 hB4
        go_enter Tryd.func120, Tryd.ntmps120
        go_wp2_with fail
        refine (Hval.out _).mono ?_
        rintro e w1 ⟨rfl, rfl⟩
        go_wp2
        refine bodyPost_ret (results_tmp4 rfl _ _ _) rfl ?_
        exact .inl ⟨a + 1 + k, a + 1 + k + v, _, rfl, H, 0, rfl⟩

/-- measure, of any text and place -/
theorem meas_any (l : List UInt8) (a : Nat) (w : World) (hlen : l.length ≤ 1099511627776) : Calls Tryd.prog 120 #[.string ⟨l.toArray⟩, .int .i64 a] w fun e w' => MeasIs l a e w w' := by
  by_cases h : l.length ≤ a
  · exact meas_past l a w h
  · have hsplit : l = l.take a ++ l.drop a := (List.take_append_drop a l).symm
    obtain ⟨c, r, hd⟩ : ∃ c r, l.drop a = c :: r := by
      cases hx : l.drop a with
      | nil => have := List.drop_eq_nil_iff.1 hx; omega
      | cons c r => exact ⟨c, r, rfl⟩
    have hal : (l.take a).length = a := by rw [List.length_take]; omega
    have hS := txtAt (l.take a) c r
    rw [hal, ← hd, ← hsplit] at hS
    have hl : l.length = a + (r.length + 1) := by
      have := congrArg List.length hd
      rw [List.length_drop, List.length_cons] at this
      omega
    by_cases h1 : c.toNat < 128
    · exact meas_low l c r a _ hS hd hl w hlen h1
    · by_cases h2 : (c.toNat - 128) % 64 > 55
      · exact meas_far l c r a _ _ _ hS hd hl w hlen h1 rfl h2 rfl
      · exact meas_brief l c r a _ _ hS hd hl w hlen h1 rfl h2
end Go.Proofs.YthicdhnjincflaaDoor
