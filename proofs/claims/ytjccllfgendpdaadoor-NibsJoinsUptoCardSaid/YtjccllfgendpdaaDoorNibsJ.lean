/- The walk of NibsJoins. -/
import Derived.Test.YtjccllfgendpdaaDoorNibsL
namespace Go.Proofs.YtjccllfgendpdaaDoor
open Go.RowKit

theorem app_data (a b : ByteArray) : (a ++ b).data.toList = a.data.toList ++ b.data.toList := by simp
theorem app_mk (l r : List UInt8) : (⟨l.toArray⟩ ++ ⟨r.toArray⟩ : ByteArray) = ⟨(l ++ r).toArray⟩ := by
  apply ByteArray.ext
  apply Array.toList_inj.1
  simp
theorem ext_take (L : ByteArray) (k : Nat) : L.extract 0 k = ⟨(L.data.toList.take k).toArray⟩ := by
  apply ByteArray.ext
  apply Array.toList_inj.1
  simp [Array.toList_extract, List.extract_eq_take_drop]

set_option maxRecDepth 100000 in
set_option maxHeartbeats 1600000 in
theorem joins_end (a b : ByteArray) (w : World) (ha : a.size ≤ 1048576) (hb : b.size ≤ 1048576) (N : Nat) (hN : N = common a.data.toList b.data.toList)
    (hcase : (∃ (h1 : N < a.size) (h2 : N < b.size), ((a[N].toNat : Int) == (b[N].toNat : Int)) = false) ∨ decide (N < a.size) = false ∨ (N < a.size ∧ decide (N < b.size) = false)) :
    Calls Tryd.prog 4 #[.string a, .string b] w fun e w' => e = .returned (.bool true) ∧ Below w.heap.size w w' := by
  have hle := common_le a.data.toList b.data.toList
  rw [← hN, len_data, len_data] at hle
  obtain ⟨hN1, hN2⟩ := hle
  have heq : a.extract 0 N = b.extract 0 N := by rw [ext_take, ext_take, hN, common_take]
  obtain ⟨X, hX⟩ : ∃ X : ByteArray, (⟨(halves a.data.toList).toArray⟩ : ByteArray) = X := ⟨_, rfl⟩
  obtain ⟨Y, hY⟩ : ∃ Y : ByteArray, (⟨(halves b.data.toList).toArray⟩ : ByteArray) = Y := ⟨_, rfl⟩
  have hXd : X.data.toList = halves a.data.toList := by rw [← hX]
  have hYd : Y.data.toList = halves b.data.toList := by rw [← hY]
  have hXb : X.size ≤ 2097152 := by rw [← len_data, hXd, halves_length, len_data]; omega
  have hYb : Y.size ≤ 2097152 := by rw [← len_data, hYd, halves_length, len_data]; omega
  have hM := common_halves a.data.toList b.data.toList
  rw [← hN, ← hXd, ← hYd] at hM
  have h1 := fun wx => common_any a b wx (by omega) (by omega)
  rw [← hN] at h1
  have h2 := fun wx => common_any b a wx (by omega) (by omega)
  rw [common_comm, ← hN] at h2
  have h3 := fun wx => of_any a wx (by omega)
  rw [hX] at h3
  have h4 := fun wx => of_any b wx (by omega)
  rw [hY] at h4
  have hs : (a ++ b).size ≤ 1073741824 := by rw [← len_data, app_data, List.length_append, len_data, len_data]; omega
  have h5 := fun wx => of_any (a ++ b) wx hs
  rw [app_data, halves_append, ← app_mk, hX, hY] at h5
  have h6 := fun wx => common_any X Y wx (by omega) (by omega)
  obtain ⟨M, hMM⟩ : ∃ M, common X.data.toList Y.data.toList = M := ⟨_, rfl⟩
  rw [hMM] at hM h6
  have hM2 : M ≤ 2097152 := by
    have := (common_le X.data.toList Y.data.toList).1
    rw [hMM, len_data] at this; omega
  have hM' : (2 : Int) * (N : Int) ≤ (M : Int) := by omega
  have H1 := Lib.hid h1
  have H2 := Lib.hid h2
  have H3 := Lib.hid h3
  have H4 := Lib.hid h4
  have H5 := Lib.hid h5
  have H6 := Lib.hid h6
  clear h1 h2 h3 h4 h5 h6 hMM hM hXd hYd hX hY hN hs
  have d0 : decide ((N : Int) < 0) = false := by simp
  have d1 : decide (a.size < N) = false := by simp; omega
  have d2 : decide (b.size < N) = false := by simp; omega
  have g0 : (0 : Int) ≤ N := by omega
  have fin : ∀ (w1 w2 w3 : World), Below w.heap.size w w1 → Below w1.heap.size w1 w2 → Below w2.heap.size w2 w3 → Below w.heap.size w w3 := fun w1 w2 w3 x y z => by
    have b2 := x.trans (y.mono x.size)
    exact b2.trans (z.mono b2.size)
  rcases hcase with ⟨q1, q2, q3⟩ | q1 | ⟨q1, q2⟩
  all_goals
    go_enter Tryd.func4, Tryd.ntmps4
    go_wp2_with fail
    refine (shown_any _).mono ?_
    rintro e w1 ⟨rfl, hb1⟩
    go_wp2_with fail
    refine (H1.out _).mono ?_
    rintro e w2 ⟨rfl, hb2⟩
    go_wp2
    go_quiet (fail)
    go_wp2_with fail
    refine (H5.out _).mono ?_
    rintro e w3 ⟨rfl, hb3⟩
    go_wp2_with fail
    refine (H3.out _).mono ?_
    rintro e w4 ⟨rfl, hb4⟩
    go_wp2_with fail
    refine (H4.out _).mono ?_
    rintro e w5 ⟨rfl, hb5⟩
    go_wp2_with fail
    refine (H2.out _).mono ?_
    rintro e w6 ⟨rfl, hb6⟩
    go_wp2_with fail
    refine (H3.out _).mono ?_
    rintro e w7 ⟨rfl, hb7⟩
    go_wp2_with fail
    refine (H4.out _).mono ?_
    rintro e w8 ⟨rfl, hb8⟩
    go_wp2_with fail
    refine (H6.out _).mono ?_
    rintro e w9 ⟨rfl, hb9⟩
    go_wp2
    go_ret
    have b2 := Below.drewN (hb1.trans (hb2.mono hb1.size)) nq
    have b4 := fin _ _ _ b2 hb3 hb4
    have b6 := fin _ _ _ b4 hb5 hb6
    have b8 := fin _ _ _ b6 hb7 hb8
    exact ⟨by simp; try omega, b8.trans (hb9.mono b8.size)⟩

theorem law_joins (a b : ByteArray) (w : World) (ha : a.size ≤ 1048576) (hb : b.size ≤ 1048576) :
    Calls Tryd.prog 4 #[.string a, .string b] w fun e w' => e = .returned (.bool true) ∧ Below w.heap.size w w' := by
  refine joins_end a b w ha hb _ rfl ?_
  by_cases h1 : common a.data.toList b.data.toList < a.size
  · by_cases h2 : common a.data.toList b.data.toList < b.size
    · refine .inl ⟨h1, h2, ?_⟩
      have h := common_next a.data.toList b.data.toList (by rw [len_data]; exact h1) (by rw [len_data]; exact h2)
      rw [byte_at _ _ h1, byte_at _ _ h2] at h
      rw [beq_eq_false_iff_ne]
      intro e
      exact h (by rw [u8_int_inj e])
    · exact .inr (.inr ⟨h1, by simpa using h2⟩)
  · exact .inr (.inl (by simpa using h1))
end Go.Proofs.YtjccllfgendpdaaDoor
