/- What the walks take: NumC. -/
import Derived.Test.YthicdhnjincflaaGreatDoorU0
import Derived.Test.YthicdhnjincflaaGreatDoorU3
import Derived.Test.YthicdhnjincflaaGreatDoorChecked
import Derived.WalkSpells
import Derived.WalkLawsBesides
import Derived.Deep.QuietTactic
import Derived.BigQuiet
import Derived.Outline
import Derived.Test.YthicdhnjincflaaGreatDoorShelfR
namespace Go.Proofs.YthicdhnjincflaaGreatDoor
open Go.RowKit
theorem app_mk (l r : List UInt8) : (⟨l.toArray⟩ ++ ⟨r.toArray⟩ : ByteArray) = ⟨(l ++ r).toArray⟩ := by
  apply ByteArray.ext
  apply Array.toList_inj.1
  simp
theorem u64_low (n : Nat) : (n : Int) % 256 = ((UInt8.ofNat n).toNat : Int) := by simp
set_option maxRecDepth 100000 in
set_option maxHeartbeats 800000 in
theorem numberRef_any (n : Nat) (w : World) (hn : n < 18446744073709551616) :
    Calls Tryz.prog 118 #[.int .u64 n] w fun e w' => e = .returned (.string ⟨(num n).toArray⟩) ∧ Below w.heap.size w w' := by
  have HN := Lib.hid hn
  clear hn
  go_enter Tryz.func118, Tryz.ntmps118
  go_wp2
  go_loopw [0, 3] (fun t s wr => ∃ (k m : Nat), t = .int .u64 m ∧ Hid (m = n / 256 ^ k ∧ (k = 0 ∨ n / 256 ^ (k - 1) ≠ 0) ∧ k ≤ 8) ∧ s = .string ⟨(be k n).toArray⟩ ∧ Below w.heap.size w wr) (fun t _ _ => (intOf t).toNat)
  case atStart => exact ⟨0, n, rfl, Lib.hid ⟨by simp, .inl rfl, by omega⟩, rfl, Below.refl _ _⟩
  case round =>
    obtain ⟨k, m, rfl, Hm, rfl, hB⟩ := hrel
    have hz := hB.size
    by_cases hpos : 0 < m
    · obtain ⟨b, hb⟩ : ∃ b, UInt8.ofNat m = b := ⟨_, rfl⟩
      have e1 : (m : Int) % 256 = (b.toNat : Int) := by rw [← hb]; exact u64_low m
      have HB := Lib.hid hb
      clear hb
      have hlit : OwnB 5 w.heap.size (wr.alloc (.cells #[.int .u8 b.toNat] 5)) (.slice (some ⟨wr.heap.size, 0, none⟩) 1 1) [b] := OwnB.lit wr [b] hz (by simp)
      have hc := hlit.str (P := Tryz.prog) Tryz.underlying60 Tryz.underlying5 Tryz.underlying9
      clear hlit
      have hlen : (be k n).length ≤ 8 := by rw [be_length]; exact Hm.out.2.2
      go_wp2
      have Hm2 := Hm.out
      have hb := HB.out
      have hn := HN.out
      have h8 : k < 8 := by
        rcases Nat.lt_or_ge k 8 with h | h
        · exact h
        · exfalso
          obtain rfl : k = 8 := by omega
          have := Nat.div_eq_of_lt (a := n) (b := 256 ^ 8) hn
          omega
      refine ⟨⟨k + 1, m / 256, by simp, Lib.hid ⟨?_, .inr ?_, by omega⟩, ?_, (hB.alloc hz _)⟩, by simp [intOf]; omega⟩
      · rw [Hm2.1, Nat.div_div_eq_div_mul, Nat.pow_succ]
      · rw [Nat.add_sub_cancel, ← Hm2.1]; omega
      · rw [app_mk, be_cons, ← Hm2.1, hb]; rfl
    · obtain rfl : m = 0 := by omega
      go_wp2
      go_ret
      have Hm2 := Hm.out
      refine ⟨?_, hB⟩
      rw [be_num HN.out Hm2.1.symm Hm2.2.1]; rfl
end Go.Proofs.YthicdhnjincflaaGreatDoor
/- Contracts of the program's Number and of Value, the program's and the reference's. -/
namespace Go.Proofs.YthicdhnjincflaaGreatDoor
open Go.RowKit
theorem OwnB.strAs {P : Program} {e t src dst : TypeId} {base : Nat} {w : World} {v : Value} {l : List UInt8} (h : OwnB t base w v l)
    (hs : P.underlying src = some (.slice e)) (he : P.underlying e = some (.int .u8)) (hd : P.underlying dst = some .string) :
    (convert src dst v).run P w = .ok (.string ⟨l.toArray⟩) w := by
  have hc := fun g (hg : v.ownBlock = some g) => World.ownsRow.cells h hg
  obtain ⟨_, ⟨rfl, h0⟩ | ⟨g, cap, cur, rfl, _⟩⟩ := h
  · obtain rfl : l = [] := List.length_eq_zero_iff.1 h0
    rw [run_convert_bytes_string w src dst e none 0 0 hs he hd]
    rfl
  · exact run_convert_bytes_back w src dst e _ cap l hs he hd (fun j hj => hc g rfl j _ (by simp [Lib.byteCells, hj]))
theorem be8_at (n i : Nat) (hi : i < 8) : (be 8 n)[i]? = some (UInt8.ofNat (n / 256 ^ (7 - i))) := by
  have e : be 8 n = [UInt8.ofNat (n / 256 ^ 7), UInt8.ofNat (n / 256 ^ 6), UInt8.ofNat (n / 256 ^ 5), UInt8.ofNat (n / 256 ^ 4), UInt8.ofNat (n / 256 ^ 3), UInt8.ofNat (n / 256 ^ 2), UInt8.ofNat (n / 256 ^ 1), UInt8.ofNat (n / 256 ^ 0)] := by
    rw [be_cons, be_cons, be_cons, be_cons, be_cons, be_cons, be_cons, be_cons]; rfl
  rw [e]
  rcases (by omega : i = 0 ∨ i = 1 ∨ i = 2 ∨ i = 3 ∨ i = 4 ∨ i = 5 ∨ i = 6 ∨ i = 7) with rfl | rfl | rfl | rfl | rfl | rfl | rfl | rfl <;> rfl
def part (n i : Nat) : List UInt8 := (be 8 n).take i ++ List.replicate (8 - i) 0
theorem part_length (n i : Nat) : (part n i).length = 8 := by simp [part, be_length]; omega
theorem part_set (n i : Nat) (hi : i < 8) : (part n i).set i (UInt8.ofNat (n / 256 ^ (7 - i))) = part n (i + 1) := by
  apply List.ext_getElem?
  intro j
  have hb := be8_at n i hi
  have hl := be_length 8 n
  unfold part
  rw [List.getElem?_set]
  by_cases h : i = j
  · subst h
    simp only [if_true]
    rw [if_pos (by simp [hl]; omega), List.getElem?_append_left (by simp [hl]; omega), List.getElem?_take, if_pos (by omega), hb]
  · rw [if_neg h]
    rcases Nat.lt_or_ge j i with h1 | h1
    · rw [List.getElem?_append_left (by simp [hl]; omega), List.getElem?_append_left (by simp [hl]; omega), List.getElem?_take, List.getElem?_take, if_pos (by omega), if_pos (by omega)]
    · rw [List.getElem?_append_right (by simp [hl]; omega), List.getElem?_append_right (by simp [hl]; omega)]
      simp only [List.length_take, hl, List.getElem?_replicate]
      congr 1
      simp only [eq_iff_iff]
      omega
theorem part_done (n : Nat) : part n 8 = be 8 n := by
  unfold part
  rw [List.take_of_length_le (by rw [be_length]; omega)]; simp
set_option maxRecDepth 100000 in
set_option maxHeartbeats 1600000 in
theorem number_any (n : Nat) (w : World) (hn : n < 18446744073709551616) :
    Calls Tryz.prog 128 #[.int .u64 n] w fun e w' => e = .returned (.string ⟨(num n).toArray⟩) ∧ Below w.heap.size w w' := by
  have HN := Lib.hid hn
  clear hn
  have l0 : OwnB 178 w.heap.size (w.alloc (.cells #[.int .u8 0, .int .u8 0, .int .u8 0, .int .u8 0, .int .u8 0, .int .u8 0, .int .u8 0, .int .u8 0] 178)) (.slice (some ⟨w.heap.size, 0, none⟩) 8 8) (part n 0) := OwnB.lit w [0, 0, 0, 0, 0, 0, 0, 0] (Nat.le_refl _) (by decide)
  have L0 := Lib.hid l0
  clear l0
  go_enter Tryz.func128, Tryz.ntmps128
  go_wp2
  go_loopw [5] (fun i wr => ∃ k : Nat, k ≤ 8 ∧ i = .int .i64 k ∧ OwnB 178 w.heap.size wr (.slice (some ⟨w.heap.size, 0, none⟩) 8 8) (part n k) ∧ Below w.heap.size w wr) (fun i _ => 8 - (intOf i).toNat)
  case atStart => exact ⟨0, by omega, rfl, L0.out, (Below.refl _ _).alloc (Nat.le_refl _) _⟩
  case round =>
    obtain ⟨k, hk, rfl, hown, hB⟩ := hrel
    by_cases hlt : k < 8
    · obtain ⟨_, hs, hc, hf⟩ := OwnB.cells hown (by rw [part_length]; omega)
      have hst := hown.stored k (UInt8.ofNat (n / 256 ^ (7 - k)))
      rw [part_set n k hlt] at hst
      have Hst := Lib.hid hst
      clear hst hown
      have hfz := hf k
      have hck := hc k (by rw [part_length]; exact hlt)
      clear hc hf
      rcases (by omega : k = 0 ∨ k = 1 ∨ k = 2 ∨ k = 3 ∨ k = 4 ∨ k = 5 ∨ k = 6 ∨ k = 7) with rfl | rfl | rfl | rfl | rfl | rfl | rfl | rfl
      all_goals
        go_wp2
        obtain ⟨q1, q2⟩ := Hst.out
        have q3 := hB.grown q2 (Nat.le_of_lt hs) (fun k hk => by cases hk; exact Nat.le_refl _)
        clear q2
        first
          | refine ⟨⟨1, by omega, rfl, by simpa using q1, by simpa using q3⟩, by simp [intOf]⟩
          | refine ⟨⟨2, by omega, rfl, by simpa using q1, by simpa using q3⟩, by simp [intOf]⟩
          | refine ⟨⟨3, by omega, rfl, by simpa using q1, by simpa using q3⟩, by simp [intOf]⟩
          | refine ⟨⟨4, by omega, rfl, by simpa using q1, by simpa using q3⟩, by simp [intOf]⟩
          | refine ⟨⟨5, by omega, rfl, by simpa using q1, by simpa using q3⟩, by simp [intOf]⟩
          | refine ⟨⟨6, by omega, rfl, by simpa using q1, by simpa using q3⟩, by simp [intOf]⟩
          | refine ⟨⟨7, by omega, rfl, by simpa using q1, by simpa using q3⟩, by simp [intOf]⟩
          | refine ⟨⟨8, by omega, rfl, by simpa using q1, by simpa using q3⟩, by simp [intOf]⟩
    · obtain rfl : k = 8 := by omega
      have hc := hown.strAs (P := Tryz.prog) Tryz.underlying60 Tryz.underlying5 Tryz.underlying9
      rw [part_done] at hc
      have hz := hB.size
      clear hown
      go_wp2_with fail
      refine (Tryz.strings_TrimLeft_one _ 0 (by decide) _).mono ?_
      rintro e w1 ⟨rfl, rfl⟩
      go_wp2
      go_ret
      exact ⟨rfl, hB⟩
end Go.Proofs.YthicdhnjincflaaGreatDoor
/- Contracts of Value, the program's and the reference's. -/
namespace Go.Proofs.YthicdhnjincflaaGreatDoor
open Go.RowKit
def valueV (l : List UInt8) : Value := .tuple #[.int .u64 ((value l).1 : Int), .int .i64 (value l).2]
theorem valueV_bad {l : List UInt8} (h : l.length > 8 ∨ l.head? = some 0) : valueV l = .tuple #[.int .u64 0, .int .i64 40] := by
  unfold valueV value; rw [if_pos h]; rfl
theorem valueV_good {l : List UInt8} (h : ¬ (l.length > 8 ∨ l.head? = some 0)) : valueV l = .tuple #[.int .u64 (val l : Nat), .int .i64 0] := by
  unfold valueV value; rw [if_neg h]
theorem hasPrefix_zero (l : List UInt8) : Lib.hasPrefix l [0] = decide (l.head? = some 0) := by
  cases l with
  | nil => rfl
  | cons b l =>
    simp only [Lib.hasPrefix, List.isPrefixOf, List.head?_cons, Option.some.injEq, Bool.and_true]
    by_cases h : b = 0
    · subst h; rfl
    · have : ¬ (0 : UInt8) = b := fun e => h e.symm
      simp [h, this]
theorem u64_join (v : Nat) (b : UInt8) (h : v < 72057594037927936) : bits .or .u64 ((v : Int) * 256) (IntKind.u64.wrap b.toNat) = ((v * 256 + b.toNat : Nat) : Int) := by
  have hb := b.toNat_lt
  have e : IntKind.u64.wrap (b.toNat : Int) = ((b.toNat : Nat) : Int) := by rw [IntKind.wrap_u64]; omega
  have e2 : (v : Int) * 256 = ((v * 256 : Nat) : Int) := by omega
  rw [e, e2, (bits_nat .u64 64 (by decide) (by intro x h0 h1; rw [IntKind.wrap_u64]; omega) (v * 256) b.toNat (by omega) (by omega)).2]
  have := Nat.shiftLeft_add_eq_or_of_lt (i := 8) (b := b.toNat) hb v
  rw [Nat.shiftLeft_eq] at this
  rw [show (2 : Nat) ^ 8 = 256 from rfl] at this
  rw [← this]
theorem val_take (s : ByteArray) (k : Nat) (h : k < s.size) (h8 : k < 8) : val (s.data.toList.take k) < 72057594037927936 ∧ val (s.data.toList.take (k + 1)) = val (s.data.toList.take k) * 256 + (s[k]).toNat := by
  constructor
  · refine Nat.lt_of_lt_of_le (val_lt _) ?_
    have : (s.data.toList.take k).length ≤ 7 := by rw [List.length_take]; omega
    exact Nat.pow_le_pow_right (by omega) this
  · rw [take_snoc s k h, val_snoc]
set_option maxRecDepth 100000 in
set_option maxHeartbeats 1600000 in
theorem value_any (s : ByteArray) (w : World) :
    Calls Tryz.prog 129 #[.string s] w fun e w' => e = .returned (valueV s.data.toList) ∧ w' = w := by
  have hlen : s.data.toList.length = s.size := by simp
  by_cases hl : s.size > 8
  · have hv := valueV_bad (l := s.data.toList) (.inl (by omega))
    rw [hv]
    clear hv hlen
    have h1 : decide ((8 : Int) < s.size) = true := by simp; omega
    go_enter Tryz.func129, Tryz.ntmps129
    go_wp2
    go_ret2
    exact ⟨rfl, rfl⟩
  · by_cases hp : s.data.toList.head? = some 0
    · have hv := valueV_bad (l := s.data.toList) (.inr hp)
      rw [hv]
      have hpre : Lib.hasPrefix s.data.toList [0] = true := by rw [hasPrefix_zero]; simpa using hp
      have Hpre := Lib.hid hpre
      clear hv hlen hp hpre
      go_enter Tryz.func129, Tryz.ntmps129
      go_wp2_with fail
      refine (Tryz.strings_HasPrefix _ _ _).mono ?_
      rintro e w1 ⟨rfl, rfl⟩
      rw [show Lib.hasPrefix s.data.toList (⟨#[0]⟩ : ByteArray).data.toList = true from Hpre.out]
      go_wp2
      go_ret2
      exact ⟨rfl, rfl⟩
    · have hv := valueV_good (l := s.data.toList) (by simp [hp]; omega)
      rw [hv]
      have hpre : Lib.hasPrefix s.data.toList [0] = false := by rw [hasPrefix_zero]; simpa using hp
      have Hpre := Lib.hid hpre
      clear hv hlen hp hpre
      go_enter Tryz.func129, Tryz.ntmps129
      go_wp2_with fail
      refine (Tryz.strings_HasPrefix _ _ _).mono ?_
      rintro e w1 ⟨rfl, rfl⟩
      rw [show Lib.hasPrefix s.data.toList (⟨#[0]⟩ : ByteArray).data.toList = false from Hpre.out]
      go_wp2
      go_loopw [4, 15] (fun n i wr => ∃ k : Nat, k ≤ s.size ∧ i = .int .i64 k ∧ n = .int .u64 (val (s.data.toList.take k) : Nat) ∧ wr = w1) (fun _ i _ => s.size - (intOf i).toNat)
      case atStart => exact ⟨0, by omega, rfl, rfl, rfl⟩
      case round =>
        obtain ⟨k, hk, rfl, rfl, rfl⟩ := hrel
        by_cases hlt : k < s.size
        · obtain ⟨hv, hn⟩ := val_take s k hlt (by omega)
          obtain ⟨v, hve⟩ : ∃ v, val (s.data.toList.take k) = v := ⟨_, rfl⟩
          rw [hve] at hv hn ⊢
          have e1 := u64_join v s[k] hv
          have Hn := Lib.hid hn
          clear hn hve
          have g1 : (0 : Int) ≤ k := by omega
          have hwr : IntKind.i64.wrap ((k : Int) + 1) = (k : Int) + 1 := by rw [IntKind.wrap_i64]; omega
          go_wp2
          refine ⟨⟨k + 1, by omega, by simp, ?_, trivial⟩, by simp [intOf]; omega⟩
          rw [Hn.out]; simp
        · go_wp2
          go_ret2
          exact ⟨by rw [take_all s k (by omega)]; rfl, rfl⟩
end Go.Proofs.YthicdhnjincflaaGreatDoor
