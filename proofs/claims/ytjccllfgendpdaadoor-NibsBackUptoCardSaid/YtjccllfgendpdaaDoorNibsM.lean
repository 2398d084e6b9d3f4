/- The walks of NibsBack and NibsJoins, with the plain laws that they rest on. -/
import Derived.Test.YtjccllfgendpdaaDoorNibsL
namespace Go.Proofs.YtjccllfgendpdaaDoor
open Go.RowKit

theorem hiN_le (b : UInt8) : (hiN b).toNat ≤ 15 := by
  have h := u8_hi b
  have := b.toNat_lt
  omega
theorem loN_eq (b : UInt8) : (loN b).toNat = b.toNat % 16 := by
  have h := u8_lo b
  have hlt := b.toNat_lt
  have h2 := Go.u8_and15 (x := (b.toNat : Int)) (by omega) (by omega)
  have h3 := h.symm.trans h2
  omega
theorem hiN_eq (b : UInt8) : (hiN b).toNat = b.toNat / 16 := by
  have h := u8_hi b
  omega
theorem joinN_eq (a b : UInt8) (ha : a.toNat ≤ 15) (hb : b.toNat ≤ 15) : (joinN a b).toNat = a.toNat * 16 + b.toNat := by
  unfold joinN
  rw [UInt8.toNat_or, UInt8.toNat_shiftLeft]
  have : (4 : UInt8).toNat % 8 = 4 := rfl
  rw [this, Nat.mod_eq_of_lt (by rw [Nat.shiftLeft_eq]; omega)]
  rw [← Nat.shiftLeft_add_eq_or_of_lt (by omega : b.toNat < 2 ^ 4), Nat.shiftLeft_eq]
theorem join_halves (b : UInt8) : joinN (hiN b) (loN b) = b := by
  apply UInt8.toNat_inj.1
  rw [joinN_eq _ _ (hiN_le b) (by rw [loN_eq]; omega), hiN_eq, loN_eq]
  omega
theorem hi_join (a b : UInt8) (ha : a.toNat ≤ 15) (hb : b.toNat ≤ 15) : hiN (joinN a b) = a := by
  apply UInt8.toNat_inj.1
  rw [hiN_eq, joinN_eq a b ha hb]; omega
theorem lo_join (a b : UInt8) (ha : a.toNat ≤ 15) (hb : b.toNat ≤ 15) : loN (joinN a b) = b := by
  apply UInt8.toNat_inj.1
  rw [loN_eq, joinN_eq a b ha hb]; omega
theorem isPath_cons (a : UInt8) (l : List UInt8) : isPath (a :: l) = (decide (a.toNat ≤ 15) && isPath l) := by simp [isPath]
theorem halves_cons (b : UInt8) (l : List UInt8) : halves (b :: l) = hiN b :: loN b :: halves l := by
  show halves ([b] ++ l) = _
  rw [halves_append, halves_one]; rfl
theorem isPath_halves (l : List UInt8) : isPath (halves l) = true := by
  induction l with
  | nil => rfl
  | cons b l ih =>
    rw [halves_cons, isPath_cons, isPath_cons, ih]
    have h1 := hiN_le b
    have h2 : (loN b).toNat ≤ 15 := by rw [loN_eq]; omega
    simp [h1, h2]
theorem pairUp_halves (l : List UInt8) : pairUp (halves l) = l := by
  induction l with
  | nil => rfl
  | cons b l ih => rw [halves_cons, pairUp, ih, join_halves]
theorem halves_pairUp (L : List UInt8) (h : L.length % 2 = 0) (hp : isPath L = true) : halves (pairUp L) = L := by
  induction L using pairUp.induct with
  | case1 a b r ih =>
    rw [isPath_cons, isPath_cons] at hp
    simp only [Bool.and_eq_true, decide_eq_true_eq] at hp
    rw [pairUp, halves_cons, hi_join a b hp.1 hp.2.1, lo_join a b hp.1 hp.2.1, ih (by simp at h; omega) hp.2.2]
  | case2 l hl =>
    match l, hl with
    | [], _ => rfl
    | [a], _ => simp at h
    | a :: b :: r, hl => exact (hl a b r rfl).elim
theorem form_halves (l : List UInt8) (leaf : Bool) : form (halves l) leaf = (pairUp ((if leaf then 2 else 0) :: 0 :: halves l), 0) := by
  unfold form
  rw [if_pos (isPath_halves l)]
  unfold formHalves
  rw [if_neg (by rw [halves_length]; omega)]
theorem read_form (l : List UInt8) (leaf : Bool) : read (pairUp ((if leaf then 2 else 0) :: 0 :: halves l)) = (halves l, leaf, 0) := by
  have hp : isPath ((if leaf then 2 else 0) :: 0 :: halves l) = true := by
    rw [isPath_cons, isPath_cons, isPath_halves]; cases leaf <;> rfl
  have hh := halves_pairUp _ (by simp only [List.length_cons, halves_length]; omega) hp
  unfold read
  rw [hh]
  cases leaf <;> rfl
theorem form_read (s p : List UInt8) (q : Bool) (h : read s = (p, q, 0)) : form p q = (s, 0) := by
  have hs := isPath_halves s
  have hp := pairUp_halves s
  have hl := halves_length s
  unfold read at h
  match hh : halves s with
  | [] => rw [hh] at h; simp at h
  | [a] => rw [hh] at h; simp at h
  | m :: z :: r =>
    rw [hh] at h hs hp hl
    rw [isPath_cons, isPath_cons] at hs
    simp only [Bool.and_eq_true, decide_eq_true_eq] at hs
    simp only [List.length_cons] at hl
    dsimp only at h
    by_cases h1 : m.toNat > 3 ∨ (m.toNat % 2 = 0 ∧ z ≠ 0)
    · rw [if_pos h1] at h; simp at h
    · rw [if_neg h1] at h
      by_cases h2 : m.toNat % 2 = 0
      · rw [if_pos h2] at h
        simp only [Prod.mk.injEq, and_true] at h
        obtain ⟨rfl, rfl⟩ := h
        have hz : z = 0 := by
          by_cases hz : z = 0
          · exact hz
          · exact absurd (.inr ⟨h2, hz⟩) h1
        unfold form
        rw [if_pos hs.2.2]
        unfold formHalves
        rw [if_neg (by omega), ← hp, hz]
        have hm : m = if decide (m.toNat = 2) = true then 2 else 0 := by
          apply UInt8.toNat_inj.1
          by_cases h3 : m.toNat = 2
          · simp [h3]
          · simp [h3]; omega
        rw [← hm]
      · rw [if_neg h2] at h
        simp only [Prod.mk.injEq, and_true] at h
        obtain ⟨rfl, rfl⟩ := h
        unfold form
        rw [if_pos (by rw [isPath_cons]; simp [hs.2.1, hs.2.2])]
        unfold formHalves
        rw [if_pos (by simp only [List.length_cons]; omega), ← hp]
        have hm : m = if decide (m.toNat = 3) = true then 3 else 1 := by
          apply UInt8.toNat_inj.1
          by_cases h3 : m.toNat = 3
          · simp [h3]
          · simp [h3]; omega
        rw [← hm]

theorem read_len (s : List UInt8) : (read s).1.length ≤ 2 * s.length := by
  have hl := halves_length s
  unfold read
  match hh : halves s with
  | [] => simp
  | [a] => simp
  | m :: z :: r =>
    rw [hh] at hl
    simp only [List.length_cons] at hl
    dsimp only
    split
    · simp
    · split
      · simp only; omega
      · simp only [List.length_cons]; omega

set_option maxRecDepth 100000 in
set_option maxHeartbeats 1600000 in
theorem law_back (key : ByteArray) (leaf : Bool) (s : ByteArray) (w : World) (hk : key.size ≤ 1048576) (hs : s.size ≤ 1048576) :
    Calls Tryd.prog 6 #[.string key, .bool leaf, .string s] w fun e w' => e = .returned (.bool true) ∧ Below w.heap.size w w' := by
  obtain ⟨P, hP⟩ : ∃ P : ByteArray, (⟨(halves key.data.toList).toArray⟩ : ByteArray) = P := ⟨_, rfl⟩
  have hPd : P.data.toList = halves key.data.toList := by rw [← hP]
  have hPn : P.size = 2 * key.size := by rw [← len_data, hPd, halves_length, len_data]
  have hPb : P.size ≤ 2097152 := by omega
  obtain ⟨X, hX⟩ : ∃ X : ByteArray, (⟨(pairUp ((if leaf then 2 else 0) :: 0 :: halves key.data.toList)).toArray⟩ : ByteArray) = X := ⟨_, rfl⟩
  have hXd : X.data.toList = pairUp ((if leaf then 2 else 0) :: 0 :: halves key.data.toList) := by rw [← hX]
  have hXb : X.size ≤ 2097152 := by rw [← len_data, hXd, pairUp_length]; simp only [List.length_cons, halves_length, len_data]; omega
  have h1 := fun wx => of_any key wx (by omega)
  have h2 := fun wx => form_lit P leaf (p := X.data.toList) (er := 0) (by rw [hPd, hXd]; exact form_halves _ _) wx (by omega)
  have h3 := fun wx => read_lit X (p := P.data.toList) (q := leaf) (er := 0) (by rw [hXd, hPd]; exact read_form _ _) wx (by omega)
  rw [hP] at h1
  have eX : (⟨X.data.toList.toArray⟩ : ByteArray) = X := by cases X; simp
  have eP : (⟨P.data.toList.toArray⟩ : ByteArray) = P := by cases P; simp
  rw [eX] at h2
  rw [eP] at h3
  have hl : (P.size : Int) = 2 * (key.size : Int) := by omega
  obtain ⟨z, was, g, hf⟩ : ∃ z was g, read s.data.toList = (z, was, g) := ⟨_, _, _, rfl⟩
  obtain ⟨Z, hZ⟩ : ∃ Z : ByteArray, (⟨z.toArray⟩ : ByteArray) = Z := ⟨_, rfl⟩
  have hZd : Z.data.toList = z := by rw [← hZ]
  have hZb : Z.size ≤ 2097152 := by
    rw [← len_data, hZd]
    have hr := read_len s.data.toList
    rw [hf, len_data] at hr
    simp only at hr
    omega
  have h4 := fun wx => read_lit s hf wx (by omega)
  rw [hZ] at h4
  obtain ⟨t, h, hg⟩ : ∃ t h, form z was = (t, h) := ⟨_, _, rfl⟩
  have h5 := fun wx => form_lit Z was (p := t) (er := h) (by rw [hZd]; exact hg) wx (by omega)
  have H1 := Lib.hid h1
  have H2 := Lib.hid h2
  have H3 := Lib.hid h3
  have H4 := Lib.hid h4
  have H5 := Lib.hid h5
  have HL := Lib.hid hl
  have hcase : (g = 0 ∧ h = 0 ∧ (⟨t.toArray⟩ : ByteArray) = s) ∨ ((g : Int) != 0) = true := by
    by_cases hg0 : g = 0
    · left
      subst hg0
      rw [form_read _ _ _ hf] at hg
      simp only [Prod.mk.injEq] at hg
      obtain ⟨rfl, rfl⟩ := hg
      exact ⟨rfl, rfl, by cases s; simp⟩
    · right
      simpa using hg0
  clear h1 h2 h3 h4 h5 hl hf hg hZ hZd hX hXd hP hPd hPn eX eP
  rcases hcase with ⟨rfl, rfl, ht⟩ | hne
  · rw [ht] at H5
    clear ht
    go_enter Tryd.func6, Tryd.ntmps6
    go_wp2_with fail
    refine (shown_any _).mono ?_
    rintro e w1 ⟨rfl, hb1⟩
    go_wp2_with fail
    refine (H1.out _).mono ?_
    rintro e w2 ⟨rfl, hb2⟩
    go_wp2_with fail
    refine (H2.out _).mono ?_
    rintro e w3 ⟨rfl, hb3⟩
    go_wp2_with fail
    refine (H3.out _).mono ?_
    rintro e w4 ⟨rfl, hb4⟩
    go_wp2_with fail
    refine (H4.out _).mono ?_
    rintro e w5 ⟨rfl, hb5⟩
    go_wp2_with fail
    refine (H5.out _).mono ?_
    rintro e w6 ⟨rfl, hb6⟩
    have hl := HL.out
    go_wp2
    go_ret
    have b2 := hb1.trans (hb2.mono hb1.size)
    have b3 := b2.trans (hb3.mono b2.size)
    have b4 := b3.trans (hb4.mono b3.size)
    have b5 := b4.trans (hb5.mono b4.size)
    exact ⟨by simp, b5.trans (hb6.mono b5.size)⟩
  · go_enter Tryd.func6, Tryd.ntmps6
    go_wp2_with fail
    refine (shown_any _).mono ?_
    rintro e w1 ⟨rfl, hb1⟩
    go_wp2_with fail
    refine (H1.out _).mono ?_
    rintro e w2 ⟨rfl, hb2⟩
    go_wp2_with fail
    refine (H2.out _).mono ?_
    rintro e w3 ⟨rfl, hb3⟩
    go_wp2_with fail
    refine (H3.out _).mono ?_
    rintro e w4 ⟨rfl, hb4⟩
    go_wp2_with fail
    refine (H4.out _).mono ?_
    rintro e w5 ⟨rfl, hb5⟩
    go_wp2_with fail
    refine (H5.out _).mono ?_
    rintro e w6 ⟨rfl, hb6⟩
    have hl := HL.out
    go_wp2
    go_ret
    have b2 := hb1.trans (hb2.mono hb1.size)
    have b3 := b2.trans (hb3.mono b2.size)
    have b4 := b3.trans (hb4.mono b3.size)
    have b5 := b4.trans (hb5.mono b4.size)
    exact ⟨by simp, b5.trans (hb6.mono b5.size)⟩
end Go.Proofs.YtjccllfgendpdaaDoor
