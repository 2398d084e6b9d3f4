/- The walks of the laws RlpNumbers and RlpShort: each returns true, and nothing that was there is changed. -/
import Derived.Test.YtjccllfgendpdaaDoorShoA
namespace Go.Proofs.YtjccllfgendpdaaDoor
open Go.RowKit

theorem valueV_num {n : Nat} (h : n < 18446744073709551616) : valueV (num n) = .tuple #[.int .u64 (n : Nat), .int .i64 0] := by
  have h1 := num_length n
  have h2 : ¬ ((num n).length > 8 ∨ (num n).head? = some 0) := by
    rintro (e | e)
    · omega
    · exact strip_head (be 8 n) e
  rw [valueV_good h2, val_num h]
theorem value_lit (s : ByteArray) {v : Value} (h : valueV s.data.toList = v) (w : World) : Calls Tryd.prog 27 #[.string s] w fun e w' => e = .returned v ∧ w' = w := by
  rw [← h]; exact value_any s w
theorem valueRef_lit (s : ByteArray) {v : Value} (h : valueV s.data.toList = v) (w : World) : Calls Tryd.prog 28 #[.string s] w fun e w' => e = .returned v ∧ w' = w := by
  rw [← h]; exact valueRef_any s w
theorem number_lit (n : Nat) {l : List UInt8} (h : num n = l) (hn : n < 18446744073709551616) (w : World) : Calls Tryd.prog 29 #[.int .u64 n] w fun e w' => e = .returned (.string ⟨l.toArray⟩) ∧ Below w.heap.size w w' := by
  rw [← h]; exact number_any n w hn
theorem numberRef_lit (n : Nat) {l : List UInt8} (h : num n = l) (hn : n < 18446744073709551616) (w : World) : Calls Tryd.prog 30 #[.int .u64 n] w fun e w' => e = .returned (.string ⟨l.toArray⟩) ∧ Below w.heap.size w w' := by
  rw [← h]; exact numberRef_any n w hn

set_option maxRecDepth 100000 in
set_option maxHeartbeats 1600000 in
theorem law_numbers (n : Nat) (s : ByteArray) (w : World) (hn : n < 18446744073709551616) :
    Calls Tryd.prog 8 #[.int .u64 n, .string s] w fun e w' => e = .returned (.bool true) ∧ Below w.heap.size w w' := by
  obtain ⟨l, hl⟩ : ∃ l, num n = l := ⟨_, rfl⟩
  have H1 := Lib.hid (fun wx => number_lit n hl hn wx)
  have H2 := Lib.hid (fun wx => numberRef_lit n hl hn wx)
  have H3 := Lib.hid (fun wx => value_lit ⟨l.toArray⟩ (v := .tuple #[.int .u64 (n : Nat), .int .i64 0]) (by rw [← hl]; simpa using valueV_num hn) wx)
  clear hl
  by_cases hb : s.data.toList.length > 8 ∨ s.data.toList.head? = some 0
  · have H4 := Lib.hid (fun wx => value_lit s (valueV_bad hb) wx)
    have H5 := Lib.hid (fun wx => valueRef_lit s (valueV_bad hb) wx)
    clear hb
    go_enter Tryd.func8, Tryd.ntmps8
    go_wp2_with fail
    refine (shown_any _).mono ?_
    rintro e w1 ⟨rfl, hb1⟩
    go_wp2_with fail
    refine (H4.out _).mono ?_
    rintro e w2 ⟨rfl, rfl⟩
    go_wp2_with fail
    refine (H5.out _).mono ?_
    rintro e w3 ⟨rfl, rfl⟩
    go_wp2_with fail
    refine (H1.out _).mono ?_
    rintro e w4 ⟨rfl, hb4⟩
    go_wp2_with fail
    refine (H3.out _).mono ?_
    rintro e w5 ⟨rfl, rfl⟩
    go_wp2_with fail
    refine (H1.out _).mono ?_
    rintro e w6 ⟨rfl, hb6⟩
    go_wp2_with fail
    refine (H2.out _).mono ?_
    rintro e w7 ⟨rfl, hb7⟩
    go_wp2
    go_ret
    have b4 := hb1.trans (hb4.mono hb1.size)
    have b6 := b4.trans (hb6.mono b4.size)
    exact ⟨rfl, b6.trans (hb7.mono b6.size)⟩
  · have hg : ¬ (s.data.toList.length > 8 ∨ s.data.toList.head? = some 0) := hb
    have hlen : s.data.toList.length ≤ 8 := by omega
    have hhd : s.data.toList.head? ≠ some 0 := fun e => hb (.inr e)
    have e6 : num (val s.data.toList) = s.data.toList := num_val hhd hlen
    have e7 : val s.data.toList < 18446744073709551616 := val_lt64 hlen
    obtain ⟨v, hv⟩ : ∃ v, val s.data.toList = v := ⟨_, rfl⟩
    have e8 := valueV_good hg
    rw [hv] at e6 e7 e8
    have H4 := Lib.hid (fun wx => value_lit s e8 wx)
    have H5 := Lib.hid (fun wx => valueRef_lit s e8 wx)
    have H6 := Lib.hid (fun wx => number_lit v e6 e7 wx)
    clear hb hg hlen hhd e6 e7 e8 hv
    go_enter Tryd.func8, Tryd.ntmps8
    go_wp2_with fail
    refine (shown_any _).mono ?_
    rintro e w1 ⟨rfl, hb1⟩
    go_wp2_with fail
    refine (H4.out _).mono ?_
    rintro e w2 ⟨rfl, rfl⟩
    go_wp2_with fail
    refine (H5.out _).mono ?_
    rintro e w3 ⟨rfl, rfl⟩
    go_wp2_with fail
    refine (H1.out _).mono ?_
    rintro e w4 ⟨rfl, hb4⟩
    go_wp2_with fail
    refine (H3.out _).mono ?_
    rintro e w5 ⟨rfl, rfl⟩
    go_wp2_with fail
    refine (H1.out _).mono ?_
    rintro e w6 ⟨rfl, hb6⟩
    go_wp2_with fail
    refine (H2.out _).mono ?_
    rintro e w7 ⟨rfl, hb7⟩
    go_wp2_with fail
    refine (H6.out _).mono ?_
    rintro e w8 ⟨rfl, hb8⟩
    go_wp2
    go_ret
    have b4 := hb1.trans (hb4.mono hb1.size)
    have b6 := b4.trans (hb6.mono b4.size)
    have b7 := b6.trans (hb7.mono b6.size)
    exact ⟨rfl, b7.trans (hb8.mono b7.size)⟩

theorem num_nil {n : Nat} (hn : n < 18446744073709551616) (h : num n = []) : n = 0 := by
  have := val_num hn
  rw [h] at this
  exact this.symm
theorem num_head {n : Nat} {c : UInt8} {r : List UInt8} (h : num n = c :: r) : c.toNat ≠ 0 := fun e => by
  have h2 := strip_head (be 8 n)
  have h3 : strip (be 8 n) = c :: r := h
  rw [h3] at h2
  exact h2 (by simp; exact UInt8.toNat_inj.1 e)
theorem num_mono {n m : Nat} (hm : m < 18446744073709551616) (h : n ≤ m) : (num n).length ≤ (num m).length := by
  rcases Nat.lt_or_ge (num m).length (num n).length with hlt | hge
  · exfalso
    cases hx : num n with
    | nil => rw [hx] at hlt; simp at hlt
    | cons c r =>
      have h0 := num_head hx
      have h1 := val_num (n := n) (by omega)
      have h2 := val_num hm
      rw [hx, val_cons] at h1
      rw [hx, List.length_cons] at hlt
      have h3 := val_lt (num m)
      have h4 : 256 ^ (num m).length ≤ 256 ^ r.length := Nat.pow_le_pow_right (by omega) (by omega)
      have h5 : 1 * 256 ^ r.length ≤ c.toNat * 256 ^ r.length := Nat.mul_le_mul_right _ (by omega)
      omega
  · exact hge
theorem num_inj {n m : Nat} (hn : n < 18446744073709551616) (hm : m < 18446744073709551616) (h : num n = num m) : n = m := by
  rw [← val_num hn, ← val_num hm, h]

theorem ret_true {b : Bool} (h : b = true) : Ending.returned (.bool b) = .returned (.bool true) := by rw [h]
/-- what RlpShort asks of two numbers' bytes -/
def ShortFacts (n m : Nat) (a b : List UInt8) : Prop :=
  a.length ≤ 8 ∧ (a = [] ↔ n = 0) ∧ (∀ (h : 0 < (⟨a.toArray⟩ : ByteArray).size), ((⟨a.toArray⟩ : ByteArray)[0]'h).toNat ≠ 0) ∧ (n ≤ m → a.length ≤ b.length) ∧ (a = b ↔ n = m)
theorem short_facts (n m : Nat) (hn : n < 18446744073709551616) (hm : m < 18446744073709551616) : ShortFacts n m (num n) (num m) := by
  refine ⟨num_length n, ⟨num_nil hn, fun h => by rw [h]; exact num_zero⟩, fun h => ?_, num_mono hm, ⟨num_inj hn hm, fun h => by rw [h]⟩⟩
  obtain ⟨l, hl⟩ : ∃ l, num n = l := ⟨_, rfl⟩
  revert h
  rw [hl]
  intro h
  cases l with
  | nil => exact absurd h (by simp [ByteArray.size])
  | cons c r => exact num_head hl
set_option maxRecDepth 100000 in
set_option maxHeartbeats 1600000 in
theorem law_short (n m : Nat) (w : World) (hn : n < 18446744073709551616) (hm : m < 18446744073709551616) :
    Calls Tryd.prog 11 #[.int .u64 n, .int .u64 m] w fun e w' => e = .returned (.bool true) ∧ Below w.heap.size w w' := by
  have hS := short_facts n m hn hm
  obtain ⟨a, ha⟩ : ∃ a, num n = a := ⟨_, rfl⟩
  obtain ⟨b, hb⟩ : ∃ b, num m = b := ⟨_, rfl⟩
  rw [ha, hb] at hS
  obtain ⟨s1, s2, s3, s4, s5⟩ := hS
  have H1 := Lib.hid (fun wx => number_lit n ha hn wx)
  have H2 := Lib.hid (fun wx => number_lit m hb hm wx)
  clear ha hb
  go_enter Tryd.func11, Tryd.ntmps11
  go_wp2_with fail
  refine (shown_any _).mono ?_
  rintro e w1 ⟨rfl, hb1⟩
  go_wp2_with fail
  refine (H1.out _).mono ?_
  rintro e w2 ⟨rfl, hb2⟩
  go_wp2_with fail
  refine (H2.out _).mono ?_
  rintro e w3 ⟨rfl, hb3⟩
  have b2 := hb1.trans (hb2.mono hb1.size)
  have HB := Lib.hid (b2.trans (hb3.mono b2.size))
  clear hb1 hb2 hb3 b2 H1 H2
  cases a with
  | nil =>
    obtain rfl : n = 0 := s2.1 rfl
    by_cases h0 : m = 0
    · subst h0
      obtain rfl : [] = b := s5.2 rfl
      clear s1 s2 s3 s4 s5
      go_wp2
      go_ret
      exact ⟨rfl, HB.out⟩
    · cases b with
      | nil => exact absurd (s5.1 rfl) (by omega)
      | cons d t =>
        have g1 : ((0 : Int) == m) = false := by simp; omega
        have g2 : decide ((0 : Int) ≤ t.length + 1) = true := by simp; omega
        clear s1 s2 s3 s4 s5
        go_wp2
        go_ret
        exact ⟨ret_true (by simp), HB.out⟩
  | cons c r =>
    have hc : c.toNat ≠ 0 := s3 (by simp [ByteArray.size])
    have h0 : n ≠ 0 := fun e => by have := s2.2 e; cases this
    have g1 : ((n : Int) == 0) = false := by simp; omega
    have g2 : ((r.length : Int) + 1 == 0) = false := by simp; omega
    have g3 : (r.length : Int) + 1 ≤ 8 := by simp at s1; omega
    have g4 : ∀ (h : 0 < (⟨(c :: r).toArray⟩ : ByteArray).size), ((((⟨(c :: r).toArray⟩ : ByteArray)[0]'h).toNat : Int) != 0) = true := by
      intro h
      have := s3 h
      simp
      omega
    by_cases hnm : n = m
    · subst hnm
      obtain rfl : c :: r = b := s5.2 rfl
      clear s1 s2 s3 s4 s5 hc
      go_wp2
      all_goals
        go_ret
        exact ⟨ret_true (by simp [*]), HB.out⟩
    · have hne : ((c :: r) == b) = false := by simp; exact fun e => hnm (s5.1 e)
      have g5 : ((n : Int) == m) = false := by simp; omega
      by_cases hlt : n ≤ m
      · have := s4 hlt
        have g6 : decide ((r.length : Int) + 1 ≤ b.length) = true := by simp; simp at this; omega
        have g7 : decide ((m : Int) < n) = false := by simp; omega
        clear s1 s2 s3 s4 s5 hc
        go_wp2
        all_goals
          go_ret
          exact ⟨ret_true (by simp [*]), HB.out⟩
      · have g7 : decide ((m : Int) < n) = true := by simp; omega
        clear s1 s2 s3 s4 s5 hc
        go_wp2
        all_goals
          go_ret
          exact ⟨ret_true (by simp [*]), HB.out⟩
theorem u64_nat {n : Int} (h : (Lit.int .u64 n).wf = true) : ∃ k : Nat, n = k ∧ k < 18446744073709551616 := by
  have h1 : IntKind.u64.min ≤ n ∧ n ≤ IntKind.u64.max := by simpa [Lit.wf] using h
  have h2 : IntKind.u64.min = 0 := by decide
  have h3 : IntKind.u64.max = 18446744073709551615 := by decide
  rw [h2, h3] at h1
  exact ⟨n.toNat, by omega, by omega⟩
theorem law_numbersI (n : Int) (s : ByteArray) (w : World) (_ : s.size ≤ 1048576) (h : (Lit.int .u64 n).wf = true) :
    Calls Tryd.prog 8 #[.int .u64 n, .string s] w fun e w' => e = .returned (.bool true) ∧ Below w.heap.size w w' := by
  obtain ⟨k, rfl, hk⟩ := u64_nat h
  exact law_numbers k s w hk
theorem law_shortI (n m : Int) (w : World) (h : (Lit.int .u64 n).wf = true) (h' : (Lit.int .u64 m).wf = true) :
    Calls Tryd.prog 11 #[.int .u64 n, .int .u64 m] w fun e w' => e = .returned (.bool true) ∧ Below w.heap.size w w' := by
  obtain ⟨k, rfl, hk⟩ := u64_nat h
  obtain ⟨j, rfl, hj⟩ := u64_nat h'
  exact law_short k j w hk hj
end Go.Proofs.YtjccllfgendpdaaDoor
