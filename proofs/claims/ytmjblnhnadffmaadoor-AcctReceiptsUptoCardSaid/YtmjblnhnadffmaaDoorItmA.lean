/- Contracts of framed and head: a head ahead of bytes. -/
import Derived.Test.YtmjblnhnadffmaaDoorNumC
import Derived.Test.YtmjblnhnadffmaaDoorPlain
import Derived.Test.YtmjblnhnadffmaaDoorItemM
namespace Go.Proofs.YtmjblnhnadffmaaDoor
open Go.RowKit

theorem framed_short {s : List UInt8} {base : Nat} (h : s.length < 56) : framed s base = UInt8.ofNat (base + s.length) :: s := by unfold framed; rw [if_pos h]
theorem framed_long {s : List UInt8} {base : Nat} (h : ¬ s.length < 56) : framed s base = UInt8.ofNat (base + 55 + (num s.length).length) :: (num s.length ++ s) := by unfold framed; rw [if_neg h]
theorem size_mk (l : List UInt8) : (⟨l.toArray⟩ : ByteArray).size = l.length := by simp [ByteArray.size]

theorem low_nat {n : Nat} (h : n < 256) : (n : Int) = ((UInt8.ofNat n).toNat : Int) := by simp; omega

set_option maxRecDepth 100000 in
set_option maxHeartbeats 1600000 in
theorem framed_any (s : List UInt8) (base : Nat) (w : World) (hs : s.length ≤ 1099511627776) (hb : base ≤ 192) :
    Calls Tryd.prog 75 #[.string ⟨s.toArray⟩, .int .u8 base] w fun e w' => e = .returned (.string ⟨(framed s base).toArray⟩) ∧ Below w.heap.size w w' := by
  by_cases hl : s.length < 56
  · rw [framed_short hl]
    have e1 := low_nat (n := base + s.length) (by omega)
    obtain ⟨b, hbe⟩ : ∃ b, UInt8.ofNat (base + s.length) = b := ⟨_, rfl⟩
    rw [hbe] at e1 ⊢
    replace e1 : (base : Int) + s.length = b.toNat := by omega
    clear hbe
    have hlit : OwnB 5 w.heap.size (w.alloc (.cells #[.int .u8 b.toNat] 5)) (.slice (some ⟨w.heap.size, 0, none⟩) 1 1) [b] := OwnB.lit w [b] (Nat.le_refl _) (by simp)
    have hc := hlit.str (P := Tryd.prog) Tryd.underlying91 Tryd.underlying5 Tryd.underlying9
    clear hlit
    go_enter Tryd.func75, Tryd.ntmps75
    go_wp2
    go_ret
    exact ⟨by rw [app_mk]; rfl, (Below.refl _ _).alloc (Nat.le_refl _) _⟩
  · rw [framed_long hl]
    have hnl := num_length s.length
    obtain ⟨n, hne⟩ : ∃ n, num s.length = n := ⟨_, rfl⟩
    rw [hne] at hnl ⊢
    have Hn := Lib.hid hne
    clear hne
    have e1 := low_nat (n := base + 55 + n.length) (by omega)
    obtain ⟨b, hbe⟩ : ∃ b, UInt8.ofNat (base + 55 + n.length) = b := ⟨_, rfl⟩
    rw [hbe] at e1 ⊢
    replace e1 : (base : Int) + 55 + n.length = b.toNat := by omega
    clear hbe
    go_enter Tryd.func75, Tryd.ntmps75
    go_wp2_with fail
    refine (number_any s.length _ (by omega)).mono ?_
    rintro e w1 ⟨rfl, hb1⟩
    rw [Hn.out]
    have hlit : OwnB 5 w.heap.size (w1.alloc (.cells #[.int .u8 b.toNat] 5)) (.slice (some ⟨w1.heap.size, 0, none⟩) 1 1) [b] := OwnB.lit w1 [b] hb1.size (by simp)
    have hc := hlit.str (P := Tryd.prog) Tryd.underlying91 Tryd.underlying5 Tryd.underlying9
    clear hlit
    have hz := hb1.size
    go_wp2
    go_ret
    exact ⟨by rw [app_mk, app_mk]; simp, hb1.alloc hz _⟩
set_option maxRecDepth 100000 in
set_option maxHeartbeats 1600000 in
theorem head_any (s : List UInt8) (base : Nat) (w : World) (hs : s.length ≤ 1099511627776) (hb : base ≤ 192) :
    Calls Tryd.prog 81 #[.int .i64 s.length, .int .u8 base] w fun e w' => (∃ h, e = .returned (.string ⟨h.toArray⟩) ∧ Hid (h ++ s = framed s base ∧ h.length ≤ 9)) ∧ Below w.heap.size w w' := by
  by_cases hl : s.length < 56
  · rw [framed_short hl]
    have e1 := low_nat (n := base + s.length) (by omega)
    obtain ⟨b, hbe⟩ : ∃ b, UInt8.ofNat (base + s.length) = b := ⟨_, rfl⟩
    rw [hbe] at e1 ⊢
    replace e1 : (base : Int) + s.length = b.toNat := by omega
    clear hbe
    have hlit : OwnB 5 w.heap.size (w.alloc (.cells #[.int .u8 b.toNat] 5)) (.slice (some ⟨w.heap.size, 0, none⟩) 1 1) [b] := OwnB.lit w [b] (Nat.le_refl _) (by simp)
    have hc := hlit.str (P := Tryd.prog) Tryd.underlying91 Tryd.underlying5 Tryd.underlying9
    clear hlit
    go_enter Tryd.func81, Tryd.ntmps81
    go_wp2
    go_ret
    exact ⟨⟨[b], rfl, Lib.hid ⟨rfl, by simp⟩⟩, (Below.refl _ _).alloc (Nat.le_refl _) _⟩
  · rw [framed_long hl]
    have hnl := num_length s.length
    obtain ⟨n, hne⟩ : ∃ n, num s.length = n := ⟨_, rfl⟩
    rw [hne] at hnl ⊢
    have Hn := Lib.hid hne
    clear hne
    have e1 := low_nat (n := base + 55 + n.length) (by omega)
    obtain ⟨b, hbe⟩ : ∃ b, UInt8.ofNat (base + 55 + n.length) = b := ⟨_, rfl⟩
    rw [hbe] at e1 ⊢
    replace e1 : (base : Int) + 55 + n.length = b.toNat := by omega
    clear hbe
    go_enter Tryd.func81, Tryd.ntmps81
    go_wp2_with fail
    refine (numberRef_any s.length _ (by omega)).mono ?_
    rintro e w1 ⟨rfl, hb1⟩
    rw [Hn.out]
    have hlit : OwnB 5 w.heap.size (w1.alloc (.cells #[.int .u8 b.toNat] 5)) (.slice (some ⟨w1.heap.size, 0, none⟩) 1 1) [b] := OwnB.lit w1 [b] hb1.size (by simp)
    have hc := hlit.str (P := Tryd.prog) Tryd.underlying91 Tryd.underlying5 Tryd.underlying9
    clear hlit
    have hz := hb1.size
    go_wp2
    go_ret
    exact ⟨⟨b :: n, by rw [app_mk]; rfl, Lib.hid ⟨by simp, by simp; omega⟩⟩, hb1.alloc hz _⟩
end Go.Proofs.YtmjblnhnadffmaaDoor
