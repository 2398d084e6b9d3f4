/- Contracts of numbers as bytes and bytes as numbers: the program's and the reference's. -/
import Derived.Test.YtjccllfgendpdaaDoorChecked
import Derived.Test.YtjccllfgendpdaaDoorNumP
import Derived.WalkSpells
import Derived.WalkLawsBesides
import Derived.Deep.QuietTactic
import Derived.BigQuiet
import Derived.Outline
namespace Go.Proofs.YtjccllfgendpdaaDoor
open Go.RowKit

theorem app_mk (l r : List UInt8) : (⟨l.toArray⟩ ++ ⟨r.toArray⟩ : ByteArray) = ⟨(l ++ r).toArray⟩ := by
  apply ByteArray.ext
  apply Array.toList_inj.1
  simp
theorem u64_low (n : Nat) : (n : Int) % 256 = ((UInt8.ofNat n).toNat : Int) := by simp

set_option maxRecDepth 100000 in
set_option maxHeartbeats 800000 in
theorem numberRef_any (n : Nat) (w : World) (hn : n < 18446744073709551616) :
    Calls Tryd.prog 30 #[.int .u64 n] w fun e w' => e = .returned (.string ⟨(num n).toArray⟩) ∧ Below w.heap.size w w' := by
  have HN := Lib.hid hn
  clear hn
  go_enter Tryd.func30, Tryd.ntmps30
  go_wp2
  go_loopw [0, 3] (fun t s wr => ∃ (k m : Nat), t = .int .u64 m ∧ Hid (m = n / 256 ^ k ∧ (k = 0 ∨ n / 256 ^ (k - 1) ≠ 0) ∧ k ≤ 8) ∧ s = .string ⟨(be k n).toArray⟩ ∧ Below w.heap.size w wr) (fun t _ _ => (intOf t).toNat)
  case atStart => exact ⟨0, n, rfl, Lib.hid ⟨by simp, .inl rfl, by omega⟩, rfl, Below.refl _ _⟩
  case round =>
    obtain ⟨k, m, rfl, Hm, rfl, hB⟩ := hrel
    have hz := hB.size
    by_cases hpos : 0 < m
    · obtain ⟨b, hb⟩ : ∃ b, UInt8.ofNat m = b := ⟨_, rfl⟩
      have e1 : (m : Int) % 256 = (b.toNat : Int) := by rw [← hb]; exact u64_low m
      have HB := Lib.hid hb
      clear hb
      have hlit : OwnB 5 w.heap.size (wr.alloc (.cells #[.int .u8 b.toNat] 5)) (.slice (some ⟨wr.heap.size, 0, none⟩) 1 1) [b] := OwnB.lit wr [b] hz (by simp)
      have hc := hlit.str (P := Tryd.prog) Tryd.underlying50 Tryd.underlying5 Tryd.underlying9
      clear hlit
      have hlen : (be k n).length ≤ 8 := by rw [be_length]; exact Hm.out.2.2
      go_wp2
      have Hm2 := Hm.out
      have hb := HB.out
      have hn := HN.out
      have h8 : k < 8 := by
        rcases Nat.lt_or_ge k 8 with h | h
        · exact h
        · exfalso
          obtain rfl : k = 8 := by omega
          have := Nat.div_eq_of_lt (a := n) (b := 256 ^ 8) hn
          omega
      refine ⟨⟨k + 1, m / 256, by simp, Lib.hid ⟨?_, .inr ?_, by omega⟩, ?_, (hB.alloc hz _)⟩, by simp [intOf]; omega⟩
      · rw [Hm2.1, Nat.div_div_eq_div_mul, Nat.pow_succ]
      · rw [Nat.add_sub_cancel, ← Hm2.1]; omega
      · rw [app_mk, be_cons, ← Hm2.1, hb]; rfl
    · obtain rfl : m = 0 := by omega
      go_wp2
      go_ret
      have Hm2 := Hm.out
      refine ⟨?_, hB⟩
      rw [be_num HN.out Hm2.1.symm Hm2.2.1]; rfl
end Go.Proofs.YtjccllfgendpdaaDoor
