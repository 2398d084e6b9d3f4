/- Contracts of Value, the program's and the reference's. -/
import Derived.Test.YtjccllfgendpdaaDoorNumB
namespace Go.Proofs.YtjccllfgendpdaaDoor
open Go.RowKit

/-- what Value gives -/
def valueV (l : List UInt8) : Value := .tuple #[.int .u64 ((value l).1 : Int), .int .i64 (value l).2]
theorem valueV_bad {l : List UInt8} (h : l.length > 8 ∨ l.head? = some 0) : valueV l = .tuple #[.int .u64 0, .int .i64 40] := by
  unfold valueV value; rw [if_pos h]; rfl
theorem valueV_good {l : List UInt8} (h : ¬ (l.length > 8 ∨ l.head? = some 0)) : valueV l = .tuple #[.int .u64 (val l : Nat), .int .i64 0] := by
  unfold valueV value; rw [if_neg h]
theorem hasPrefix_zero (l : List UInt8) : Lib.hasPrefix l [0] = decide (l.head? = some 0) := by
  cases l with
  | nil => rfl
  | cons b l =>
    simp only [Lib.hasPrefix, List.isPrefixOf, List.head?_cons, Option.some.injEq, Bool.and_true]
    by_cases h : b = 0
    · subst h; rfl
    · have : ¬ (0 : UInt8) = b := fun e => h e.symm
      simp [h, this]

theorem u64_join (v : Nat) (b : UInt8) (h : v < 72057594037927936) : bits .or .u64 ((v : Int) * 256) (IntKind.u64.wrap b.toNat) = ((v * 256 + b.toNat : Nat) : Int) := by
  have hb := b.toNat_lt
  have e : IntKind.u64.wrap (b.toNat : Int) = ((b.toNat : Nat) : Int) := by rw [IntKind.wrap_u64]; omega
  have e2 : (v : Int) * 256 = ((v * 256 : Nat) : Int) := by omega
  rw [e, e2, (bits_nat .u64 64 (by decide) (by intro x h0 h1; rw [IntKind.wrap_u64]; omega) (v * 256) b.toNat (by omega) (by omega)).2]
  have := Nat.shiftLeft_add_eq_or_of_lt (i := 8) (b := b.toNat) hb v
  rw [Nat.shiftLeft_eq] at this
  rw [show (2 : Nat) ^ 8 = 256 from rfl] at this
  rw [← this]
theorem val_take (s : ByteArray) (k : Nat) (h : k < s.size) (h8 : k < 8) : val (s.data.toList.take k) < 72057594037927936 ∧ val (s.data.toList.take (k + 1)) = val (s.data.toList.take k) * 256 + (s[k]).toNat := by
  constructor
  · refine Nat.lt_of_lt_of_le (val_lt _) ?_
    have : (s.data.toList.take k).length ≤ 7 := by rw [List.length_take]; omega
    exact Nat.pow_le_pow_right (by omega) this
  · rw [take_snoc s k h, val_snoc]

set_option maxRecDepth 100000 in
set_option maxHeartbeats 1600000 in
theorem value_any (s : ByteArray) (w : World) :
    Calls Tryd.prog 27 #[.string s] w fun e w' => e = .returned (valueV s.data.toList) ∧ w' = w := by
  have hlen : s.data.toList.length = s.size := by simp
  by_cases hl : s.size > 8
  · have hv := valueV_bad (l := s.data.toList) (.inl (by omega))
    rw [hv]
    clear hv hlen
    have h1 : decide ((8 : Int) < s.size) = true := by simp; omega
    go_enter Tryd.func27, Tryd.ntmps27
    go_wp2
    go_ret2
    exact ⟨rfl, rfl⟩
  · by_cases hp : s.data.toList.head? = some 0
    · have hv := valueV_bad (l := s.data.toList) (.inr hp)
      rw [hv]
      have hpre : Lib.hasPrefix s.data.toList [0] = true := by rw [hasPrefix_zero]; simpa using hp
      have Hpre := Lib.hid hpre
      clear hv hlen hp hpre
      go_enter Tryd.func27, Tryd.ntmps27
      go_wp2_with fail
      refine (Tryd.strings_HasPrefix _ _ _).mono ?_
      rintro e w1 ⟨rfl, rfl⟩
      rw [show Lib.hasPrefix s.data.toList (⟨#[0]⟩ : ByteArray).data.toList = true from Hpre.out]
      go_wp2
      go_ret2
      exact ⟨rfl, rfl⟩
    · have hv := valueV_good (l := s.data.toList) (by simp [hp]; omega)
      rw [hv]
      have hpre : Lib.hasPrefix s.data.toList [0] = false := by rw [hasPrefix_zero]; simpa using hp
      have Hpre := Lib.hid hpre
      clear hv hlen hp hpre
      go_enter Tryd.func27, Tryd.ntmps27
      go_wp2_with fail
      refine (Tryd.strings_HasPrefix _ _ _).mono ?_
      rintro e w1 ⟨rfl, rfl⟩
      rw [show Lib.hasPrefix s.data.toList (⟨#[0]⟩ : ByteArray).data.toList = false from Hpre.out]
      go_wp2
      go_loopw [4, 15] (fun n i wr => ∃ k : Nat, k ≤ s.size ∧ i = .int .i64 k ∧ n = .int .u64 (val (s.data.toList.take k) : Nat) ∧ wr = w1) (fun _ i _ => s.size - (intOf i).toNat)
      case atStart => exact ⟨0, by omega, rfl, rfl, rfl⟩
      case round =>
        obtain ⟨k, hk, rfl, rfl, rfl⟩ := hrel
        by_cases hlt : k < s.size
        · obtain ⟨hv, hn⟩ := val_take s k hlt (by omega)
          obtain ⟨v, hve⟩ : ∃ v, val (s.data.toList.take k) = v := ⟨_, rfl⟩
          rw [hve] at hv hn ⊢
          have e1 := u64_join v s[k] hv
          have Hn := Lib.hid hn
          clear hn hve
          have g1 : (0 : Int) ≤ k := by omega
          have hwr : IntKind.i64.wrap ((k : Int) + 1) = (k : Int) + 1 := by rw [IntKind.wrap_i64]; omega
          go_wp2
          refine ⟨⟨k + 1, by omega, by simp, ?_, trivial⟩, by simp [intOf]; omega⟩
          rw [Hn.out]; simp
        · go_wp2
          go_ret2
          exact ⟨by rw [take_all s k (by omega)]; rfl, rfl⟩

set_option maxRecDepth 100000 in
set_option maxHeartbeats 1600000 in
theorem valueRef_any (s : ByteArray) (w : World) :
    Calls Tryd.prog 28 #[.string s] w fun e w' => e = .returned (valueV s.data.toList) ∧ w' = w := by
  have hlen : s.data.toList.length = s.size := by simp
  by_cases hl : s.size > 8
  · have hv := valueV_bad (l := s.data.toList) (.inl (by omega))
    rw [hv]
    clear hv hlen
    have h1 : decide ((8 : Int) < s.size) = true := by simp; omega
    go_enter Tryd.func28, Tryd.ntmps28
    go_wp2
    go_ret2
    exact ⟨rfl, rfl⟩
  · by_cases hp : s.data.toList.head? = some 0
    · have hv := valueV_bad (l := s.data.toList) (.inr hp)
      rw [hv]
      have h0 : 0 < s.size := by
        rcases Nat.eq_zero_or_pos s.size with h | h
        · rw [List.length_eq_zero_iff.1 (by omega : s.data.toList.length = 0)] at hp; simp at hp
        · exact h
      have hb : (s[0]).toNat = 0 := by
        have := byte_at s 0 h0
        rw [← List.head?_eq_getElem?, hp] at this
        have h2 := Option.some.inj this
        rw [← h2]; rfl
      clear hv hlen hp
      go_enter Tryd.func28, Tryd.ntmps28
      go_wp2
      go_ret2
      exact ⟨rfl, rfl⟩
    · have hv := valueV_good (l := s.data.toList) (by simp [hp]; omega)
      rw [hv]
      have hcase : s.size = 0 ∨ ∃ h0 : 0 < s.size, (((s[0]).toNat : Int) == 0) = false := by
        rcases Nat.eq_zero_or_pos s.size with h | h
        · exact .inl h
        · refine .inr ⟨h, ?_⟩
          have := byte_at s 0 h
          rw [← List.head?_eq_getElem?] at this
          rw [this] at hp
          simp only [Option.some.injEq] at hp
          have hne : (s[0]).toNat ≠ 0 := fun e => hp (UInt8.toNat_inj.1 e)
          simpa using hne
      clear hv hlen hp
      rcases hcase with h0 | ⟨h0, hne⟩
      all_goals
        go_enter Tryd.func28, Tryd.ntmps28
        go_wp2
        go_loopw [4, 5] (fun n i wr => ∃ k : Nat, k ≤ s.size ∧ i = .int .i64 k ∧ n = .int .u64 (val (s.data.toList.take k) : Nat) ∧ wr = w) (fun _ i _ => s.size - (intOf i).toNat)
        case atStart => exact ⟨0, by omega, rfl, rfl, rfl⟩
        case round =>
          obtain ⟨k, hk, rfl, rfl, rfl⟩ := hrel
          by_cases hlt : k < s.size
          · obtain ⟨hv, hn⟩ := val_take s k hlt (by omega)
            obtain ⟨v, hve⟩ : ∃ v, val (s.data.toList.take k) = v := ⟨_, rfl⟩
            rw [hve] at hv hn ⊢
            have e1 := u64_join v s[k] hv
            have Hn := Lib.hid hn
            clear hn hve
            have g1 : (0 : Int) ≤ k := by omega
            have hwr : IntKind.i64.wrap ((k : Int) + 1) = (k : Int) + 1 := by rw [IntKind.wrap_i64]; omega
            go_wp2
            all_goals (refine ⟨⟨k + 1, by omega, by simp, ?_, trivial⟩, by simp [intOf]; omega⟩; rw [Hn.out]; simp)
          · go_wp2
            go_ret2
            exact ⟨by rw [take_all s k (by omega)]; rfl, rfl⟩
end Go.Proofs.YtjccllfgendpdaaDoor
