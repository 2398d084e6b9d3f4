/- Contracts of acct.short, isShort, Slot and SlotFrom. -/
import Derived.Test.YtmjblnhnadffmaaDoorWrdE
import Derived.Test.YtmjblnhnadffmaaDoorAccP
import Derived.Test.YtmjblnhnadffmaaDoorShoT
import Derived.Test.YtmjblnhnadffmaaDoorDecB
namespace Go.Proofs.YtmjblnhnadffmaaDoor
open Go.RowKit Go.Shelf Go.Lib

theorem wordV_form (v : Nat) : ∃ x0 x1 x2 x3 : Nat, wordV v = .agg #[.int .u64 x0, .int .u64 x1, .int .u64 x2, .int .u64 x3] ∧ x0 < 18446744073709551616 ∧ x1 < 18446744073709551616 ∧ x2 < 18446744073709551616 ∧ x3 < 18446744073709551616 :=
  ⟨limb v 0, limb v 1, limb v 2, limb v 3, rfl, limb_lt _ _, limb_lt _ _, limb_lt _ _, limb_lt _ _⟩

set_option maxRecDepth 100000 in
set_option maxHeartbeats 1600000 in
theorem short_any (v : Nat) (w : World) : Calls Tryd.prog 31 #[wordV v] w fun e w' => e = .returned (.string ⟨(shortW v).toArray⟩) ∧ Below w.heap.size w w' := by
  have H1 := Lib.hid (fun W => wordBytes_any v W)
  obtain ⟨x0, x1, x2, x3, hv, -⟩ := wordV_form v
  rw [hv] at H1 ⊢
  obtain ⟨bl, hbl⟩ : ∃ bl, be 32 v = bl := ⟨_, rfl⟩
  have hs : shortW v = strip bl := by rw [← hbl]; rfl
  rw [hbl] at H1
  rw [hs]
  clear hbl hs hv
  go_enter Tryd.func31, Tryd.ntmps31
  go_wp2_with fail
  refine (H1.out _).mono ?_
  rintro e w1 ⟨rfl, hb1⟩
  go_wp2_with fail
  refine (Tryd.strings_TrimLeft_one _ 0 (by decide) _).mono ?_
  rintro e w2 ⟨rfl, rfl⟩
  go_wp2
  go_ret
  exact ⟨rfl, (laid1 w _).trans (hb1.mono (by simp))⟩

set_option maxRecDepth 100000 in
set_option maxHeartbeats 1600000 in
theorem isShort_any (s : ByteArray) (w : World) : Calls Tryd.prog 26 #[.string s] w fun e w' => e = .returned (.bool (isShortW s.data.toList)) ∧ w' = w := by
  have hl : s.data.toList.length = s.size := rfl
  by_cases h : s.size ≤ 32
  · have e1 : isShortW s.data.toList = !Lib.hasPrefix s.data.toList [0] := by unfold isShortW; rw [hl]; simp [h]
    rw [e1]
    have h1 : decide ((s.size : Int) ≤ 32) = true := by simp; omega
    clear e1 hl
    go_enter Tryd.func26, Tryd.ntmps26
    go_wp2_with fail
    refine (Tryd.strings_HasPrefix _ _ _).mono ?_
    rintro e w1 ⟨rfl, rfl⟩
    go_wp2
    go_ret
    exact ⟨rfl, rfl⟩
  · have e1 : isShortW s.data.toList = false := by unfold isShortW; rw [hl]; simp [h]
    rw [e1]
    have h1 : decide ((s.size : Int) ≤ 32) = false := by simp; omega
    clear e1 hl
    go_enter Tryd.func26, Tryd.ntmps26
    go_wp2
    go_ret
    exact ⟨rfl, rfl⟩

set_option maxRecDepth 100000 in
set_option maxHeartbeats 1600000 in
theorem slot_any (v : Nat) (w : World) : Calls Tryd.prog 11 #[wordV v] w fun e w' => e = .returned (.string ⟨(slotL v).toArray⟩) ∧ Below w.heap.size w w' := by
  have H1 := Lib.hid (fun W => short_any v W)
  have hlen := shortW_length v
  obtain ⟨sl, hsl⟩ : ∃ sl, shortW v = sl := ⟨_, rfl⟩
  have H2 : ∀ W, Calls Tryd.prog 29 #[.agg #[.bool false, .string ⟨sl.toArray⟩, .slice none 0 0]] W fun e w' => e = .returned (.tuple #[.string ⟨(slotL v).toArray⟩, .int .i64 0]) ∧ Below W.heap.size W w' := by
    intro W
    have := encode_any (.mk false sl []) (.slice none 0 0) W (by simp [Item.size, sizeAll]) (by
      have := encode_text (t := sl) (by rw [← hsl]; omega)
      obtain ⟨h, _⟩ := encode_ok this
      have h2 := (encode_ok this).2.2.2
      rw [← h]; omega) (Reads.nil _ _)
    unfold encodeV at this
    rw [encode_text (by rw [← hsl]; omega)] at this
    unfold slotL
    rw [hsl]
    exact this
  obtain ⟨tl, htl⟩ : ∃ tl, slotL v = tl := ⟨_, rfl⟩
  rw [htl] at H2 ⊢
  rw [hsl] at H1
  have HE := Lib.hid H2
  obtain ⟨x0, x1, x2, x3, hv, -⟩ := wordV_form v
  rw [hv] at H1 ⊢
  clear hv hsl htl H2 hlen
  go_enter Tryd.func11, Tryd.ntmps11
  go_wp2_with fail
  refine (H1.out _).mono ?_
  rintro e w1 ⟨rfl, hb1⟩
  go_wp2_with fail
  refine (text_any _ _).mono ?_
  rintro e w2 ⟨rfl, hb2⟩
  go_wp2_with fail
  refine (HE.out _).mono ?_
  rintro e w3 ⟨rfl, hb3⟩
  go_wp2
  go_ret
  have b1 := (laid1 w _).trans (hb1.mono (by simp))
  have b2 := b1.trans (hb2.mono b1.size)
  exact ⟨rfl, b2.trans (hb3.mono b2.size)⟩
end Go.Proofs.YtmjblnhnadffmaaDoor
/- Contract of acct.SlotFrom. -/
namespace Go.Proofs.YtmjblnhnadffmaaDoor
open Go.RowKit Go.Shelf Go.Lib

theorem decode_cases (s : List UInt8) : (∃ x, decode s = (x, 0)) ∨ decode s = (.none, 40) ∨ decode s = (.none, 41) ∨ decode s = (.none, 42) := by
  unfold decode
  split
  · exact .inr (.inr (.inr rfl))
  · split
    · split
      · exact .inr (.inr (.inl rfl))
      · exact .inl ⟨_, rfl⟩
    · exact .inr (.inl rfl)
theorem isShort_lit {t : List UInt8} {b : Bool} (h : isShortW t = b) (w : World) : Calls Tryd.prog 26 #[.string ⟨t.toArray⟩] w fun e w' => e = .returned (.bool b) ∧ w' = w := by
  have := isShort_any ⟨t.toArray⟩ w
  simp only [h] at this
  exact this
theorem wordFrom_lit {t : List UInt8} {v : Nat} (h : wordOf t = v) (ht : t.length ≤ 1099511627776) (w : World) : Calls Tryd.prog 25 #[.string ⟨t.toArray⟩] w fun e w' => e = .returned (wordV v) ∧ Below w.heap.size w w' := by
  have := wordFrom_any ⟨t.toArray⟩ w ht
  simp only [h] at this
  exact this
theorem decode_lit {s : List UInt8} {x : Item} {n : Int} (h : decode s = (x, n)) (hs : s.length ≤ 1099511627776) (w : World) :
    Calls Tryd.prog 24 #[.string ⟨s.toArray⟩] w fun e w' => Below w.heap.size w w' ∧ ∃ p c, e = .returned (.tuple #[.agg #[.bool x.isList, .string ⟨x.text.toArray⟩, .slice p x.list.length c], .int .i64 n]) ∧ Hid (Reads w' w'.heap.size (.slice p x.list.length c) x.list) := by
  refine (decode_any s w hs).mono ?_
  rintro e w' ⟨hb, y, m, p, c, rfl, HD, HR⟩
  obtain ⟨rfl, rfl⟩ : y = x ∧ m = n := by have := HD.out.symm.trans h; cases this; exact ⟨rfl, rfl⟩
  exact ⟨hb, p, c, rfl, HR⟩
theorem decode_text_length {s : List UInt8} {x : Item} {n : Int} (h : decode s = (x, n)) : x.text.length ≤ 65536 := by
  rcases decode_cases s with ⟨y, e⟩ | e | e | e
  · have e2 := e.symm.trans h
    cases e2
    obtain ⟨h1, h2, h3, h4⟩ := encode_ok (encode_decode h)
    cases x with
    | mk b t l =>
      cases b with
      | true => simp only [wrong, if_true, Bool.or_eq_false_iff, Bool.not_eq_false'] at h2
                have h2 := h2.1
                simp at h2
                subst h2; simp [Item.text]
      | false =>
        have h5 := putText_ge t
        have h6 : put (.mk false t l) = putText t := rfl
        rw [h6] at h1
        subst h1
        show t.length ≤ 65536
        omega
  all_goals
    have e2 := e.symm.trans h
    cases e2
    simp [Item.none, Item.text]

theorem Box4.zero {W : World} {b v : Nat} (h : Box4 W b v) :
    Box4 ((((W.setCell ⟨b, 0, none⟩ (.int .u64 0)).setCell ⟨b, 1, none⟩ (.int .u64 0)).setCell ⟨b, 2, none⟩ (.int .u64 0)).setCell ⟨b, 3, none⟩ (.int .u64 0)) b 0 := by
  simpa [limb_zero] using h.set4 0
theorem Box4.new0 (w : World) (t : TypeId) : Box4 (w.alloc (.cells #[.int .u64 0, .int .u64 0, .int .u64 0, .int .u64 0] t)) w.heap.size 0 := by
  simpa [limb_zero] using Box4.new w 0 t
theorem Box4.setL {W : World} {b v u : Nat} {x0 x1 x2 x3 : Nat} (h : Box4 W b v) (hw : wordV u = .agg #[.int .u64 x0, .int .u64 x1, .int .u64 x2, .int .u64 x3]) :
    Box4 ((((W.setCell ⟨b, 0, none⟩ (.int .u64 x0)).setCell ⟨b, 1, none⟩ (.int .u64 x1)).setCell ⟨b, 2, none⟩ (.int .u64 x2)).setCell ⟨b, 3, none⟩ (.int .u64 x3)) b u := by
  have := h.set4 u
  unfold wordV at hw
  simp only [Value.agg.injEq, Array.mk.injEq, List.cons.injEq, Value.int.injEq, true_and, and_true] at hw
  obtain ⟨h0, h1, h2, h3⟩ := hw
  rwa [h0, h1, h2, h3] at this

theorem slot_end {w w2 : World} (hA : Box4 w2 w.heap.size 0) (hl : w.heap.size < w2.heap.size) (hB : Below w.heap.size w w2) (o : Obj) :
    Box4 (((((w2.setCell ⟨w.heap.size, 0, none⟩ (.int .u64 0)).setCell ⟨w.heap.size, 1, none⟩ (.int .u64 0)).setCell ⟨w.heap.size, 2, none⟩ (.int .u64 0)).setCell ⟨w.heap.size, 3, none⟩ (.int .u64 0)).alloc o) w.heap.size 0 ∧
    Below w.heap.size w (((((w2.setCell ⟨w.heap.size, 0, none⟩ (.int .u64 0)).setCell ⟨w.heap.size, 1, none⟩ (.int .u64 0)).setCell ⟨w.heap.size, 2, none⟩ (.int .u64 0)).setCell ⟨w.heap.size, 3, none⟩ (.int .u64 0)).alloc o) :=
  ⟨hA.zero.kept (Below.heap_alloc _ _ _ (by simpa using hl)), (Below.set4 hB (Nat.le_refl _) _ _ _ _).alloc (by simpa using Nat.le_of_lt hl) _⟩
theorem slot_good {w w2 : World} {v x0 x1 x2 x3 : Nat} (hA : Box4 w2 w.heap.size 0) (hl : w.heap.size < w2.heap.size) (hB : Below w.heap.size w w2) (hw : wordV v = .agg #[.int .u64 x0, .int .u64 x1, .int .u64 x2, .int .u64 x3]) (o : Obj) :
    Box4 (((((w2.setCell ⟨w.heap.size, 0, none⟩ (.int .u64 x0)).setCell ⟨w.heap.size, 1, none⟩ (.int .u64 x1)).setCell ⟨w.heap.size, 2, none⟩ (.int .u64 x2)).setCell ⟨w.heap.size, 3, none⟩ (.int .u64 x3)).alloc o) w.heap.size v ∧
    Below w.heap.size w (((((w2.setCell ⟨w.heap.size, 0, none⟩ (.int .u64 x0)).setCell ⟨w.heap.size, 1, none⟩ (.int .u64 x1)).setCell ⟨w.heap.size, 2, none⟩ (.int .u64 x2)).setCell ⟨w.heap.size, 3, none⟩ (.int .u64 x3)).alloc o) :=
  ⟨(hA.setL hw).kept (Below.heap_alloc _ _ _ (by simpa using hl)), (Below.set4 hB (Nat.le_refl _) _ _ _ _).alloc (by simpa using Nat.le_of_lt hl) _⟩

set_option maxRecDepth 100000 in
set_option maxHeartbeats 1200000 in
theorem slotFrom_any (s : List UInt8) (w : World) (hs : s.length ≤ 1099511627776) :
    Calls Tryd.prog 9 #[.string ⟨s.toArray⟩] w fun e w' => e = .returned (.tuple #[wordV (slotFrom s).1, .int .i64 (slotFrom s).2]) ∧ Below w.heap.size w w' := by
  obtain ⟨x, n, hx⟩ : ∃ x n, decode s = (x, n) := ⟨_, _, rfl⟩
  have ht := decode_text_length hx
  have H1 := Lib.hid (fun W => decode_lit hx hs W)
  obtain ⟨b, hb⟩ : ∃ b, isShortW x.text = b := ⟨_, rfl⟩
  obtain ⟨v, hv⟩ : ∃ v, wordOf x.text = v := ⟨_, rfl⟩
  have H2 := Lib.hid (fun W => wordFrom_lit hv (by omega) W)
  have H3 := Lib.hid (fun W => isShort_lit hb W)
  obtain ⟨r, hr⟩ : ∃ r, slotFrom s = r := ⟨_, rfl⟩
  rw [hr]
  have hR := hr
  unfold slotFrom at hR
  rw [hx, hb, hv] at hR
  dsimp only at hR
  have hcase : (n ≠ 0 ∧ (n = 40 ∨ n = 41 ∨ n = 42)) ∨ n = 0 := by
    rcases decode_cases s with ⟨y, e⟩ | e | e | e <;> (have e2 := e.symm.trans hx; cases e2; simp)
  obtain ⟨x0, x1, x2, x3, hw, -⟩ := wordV_form v
  rw [hw] at H2
  obtain ⟨isl, hisl⟩ : ∃ l, x.isList = l := ⟨_, rfl⟩
  obtain ⟨t, htt⟩ : ∃ t, x.text = t := ⟨_, rfl⟩
  rw [hisl, htt] at H1
  rw [htt] at H2 H3
  rw [hisl, htt] at hR
  go_enter Tryd.func9, Tryd.ntmps9
  go_wp2_with fail
  refine (H1.out _).mono ?_
  rintro e w1 ⟨hb1, p, c, rfl, -⟩
  go_wp2_with fail
  refine (H2.out _).mono ?_
  rintro e w2 ⟨rfl, hb2⟩
  have hX3 : Box3 w2 w1.heap.size (.bool isl) (.string ⟨t.toArray⟩) (.slice p x.list.length c) := (Box3.new w1 _ _ _ _).kept (hb2.block _ (by simp))
  obtain ⟨q0, q1, q2, q3⟩ := hX3
  have hz1 := hb1.size
  have hz2 := hb2.size
  simp at hz1 hz2
  have hA : Box4 w2 w.heap.size 0 := ((Box4.new0 w 24).kept (hb1.block _ (by simp))).kept ((hb2.block _ (by simp; omega)).trans (Below.heap_alloc _ _ _ (by omega)))
  have HA := Lib.hid hA
  obtain ⟨d0, d1, d2, d3, d4⟩ := hA
  have hB2 : Below w.heap.size w w2 := (((laid1 w _).trans (hb1.mono (by simp))).alloc (by omega) _).trans (hb2.mono (by simp; omega))
  have HB2 := Lib.hid hB2
  clear hB2
  have hl0 : w.heap.size < w2.heap.size := by omega
  have hl1 : w1.heap.size < w2.heap.size := by omega
  have HE := Lib.hid (slot_end HA.out hl0 HB2.out)
  have HG := Lib.hid (slot_good HA.out hl0 HB2.out hw)
  have hvl : v < 256 ^ 32 := by rw [← hv]; exact wordOf_lt _
  have hv0 : b = true → (v = 0 ↔ t = []) := fun e => by
    rw [← hv, ← htt]; exact isShortW_zero (hb.trans e)
  clear hx htt hisl hb hv ht
  rcases hcase with ⟨-, rfl | rfl | rfl⟩ | rfl
  · obtain rfl : r = (0, 160) := hR.symm
    go_wp2_with fail
    have hE := HE.out (.cells #[.int .u64 x0, .int .u64 x1, .int .u64 x2, .int .u64 x3] 24)
    refine bodyPost_ret (results_word1 rfl _ _ w.heap.size 0 rfl hE.1) rfl ?_
    exact ⟨rfl, hE.2⟩
  · obtain rfl : r = (0, 160) := hR.symm
    go_wp2_with fail
    have hE := HE.out (.cells #[.int .u64 x0, .int .u64 x1, .int .u64 x2, .int .u64 x3] 24)
    refine bodyPost_ret (results_word1 rfl _ _ w.heap.size 0 rfl hE.1) rfl ?_
    exact ⟨rfl, hE.2⟩
  · obtain rfl : r = (0, 160) := hR.symm
    go_wp2_with fail
    have hE := HE.out (.cells #[.int .u64 x0, .int .u64 x1, .int .u64 x2, .int .u64 x3] 24)
    refine bodyPost_ret (results_word1 rfl _ _ w.heap.size 0 rfl hE.1) rfl ?_
    exact ⟨rfl, hE.2⟩
  · cases isl with
    | true =>
      obtain rfl : r = (0, 160) := hR.symm
      go_wp2_with fail
      have hE := HE.out (.cells #[.int .u64 x0, .int .u64 x1, .int .u64 x2, .int .u64 x3] 24)
      refine bodyPost_ret (results_word1 rfl _ _ w.heap.size 0 rfl hE.1) rfl ?_
      exact ⟨rfl, hE.2⟩
    | false =>
      go_wp2_with fail
      refine (H3.out _).mono ?_
      rintro e w3 ⟨rfl, rfl⟩
      cases b with
      | false =>
        obtain rfl : r = (0, 160) := by rw [← hR]; simp
        go_wp2_with fail
        have hE := HE.out (.cells #[.int .u64 x0, .int .u64 x1, .int .u64 x2, .int .u64 x3] 24)
        refine bodyPost_ret (results_word1 rfl _ _ w.heap.size 0 rfl hE.1) rfl ?_
        exact ⟨rfl, hE.2⟩
      | true =>
        by_cases h0 : t = []
        · obtain rfl : r = (0, 160) := by rw [← hR]; simp [h0]
          have hq : ∀ W, (Op.equalIn 10000 24 (.agg #[.int .u64 x0, .int .u64 x1, .int .u64 x2, .int .u64 x3]) (.agg #[.int .u64 0, .int .u64 0, .int .u64 0, .int .u64 0])).run Tryd.prog W = .ok true W := fun W => by
            have := eq_wordV hvl (show 0 < 256 ^ 32 by decide) W
            rw [hw, wordV_zero, decide_eq_true ((hv0 rfl).2 h0)] at this
            exact this
          clear h0
          go_wp2_with fail
          have hE := HE.out (.cells #[.int .u64 x0, .int .u64 x1, .int .u64 x2, .int .u64 x3] 24)
          refine bodyPost_ret (results_word1 rfl _ _ w.heap.size 0 rfl hE.1) rfl ?_
          exact ⟨rfl, hE.2⟩
        · obtain rfl : r = (v, 0) := by rw [← hR]; simp [h0]
          have hq : ∀ W, (Op.equalIn 10000 24 (.agg #[.int .u64 x0, .int .u64 x1, .int .u64 x2, .int .u64 x3]) (.agg #[.int .u64 0, .int .u64 0, .int .u64 0, .int .u64 0])).run Tryd.prog W = .ok false W := fun W => by
            have := eq_wordV hvl (show 0 < 256 ^ 32 by decide) W
            rw [hw, wordV_zero, decide_eq_false (fun e => h0 ((hv0 rfl).1 e))] at this
            exact this
          clear h0
          go_wp2_with fail
          have hG := HG.out (.cells #[.int .u64 x0, .int .u64 x1, .int .u64 x2, .int .u64 x3] 24)
          refine bodyPost_ret (results_word1 rfl _ _ w.heap.size v rfl hG.1) rfl ?_
          exact ⟨by rw [hw]; rfl, hG.2⟩
end Go.Proofs.YtmjblnhnadffmaaDoor
