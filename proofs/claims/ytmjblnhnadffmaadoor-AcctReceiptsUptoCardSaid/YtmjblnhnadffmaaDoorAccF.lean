/- Contracts of the reference's short, wordOf, Slot and SlotFrom. -/
import Derived.Test.YtmjblnhnadffmaaDoorWrdE
import Derived.Test.YtmjblnhnadffmaaDoorAccB
import Derived.Test.YtmjblnhnadffmaaDoorWrdO
namespace Go.Proofs.YtmjblnhnadffmaaDoor
open Go.RowKit Go.Shelf Go.Lib

set_option maxRecDepth 100000 in
theorem textRef_any (s : ByteArray) (w : World) : Calls Tryd.prog 33 #[.string s] w fun e w' => e = .returned (.agg #[.bool false, .string s, .slice none 0 0]) ∧ Below w.heap.size w w' := by
  go_enter Tryd.func33, Tryd.ntmps33
  go_wp2
  refine bodyPost_ret (results_item0 rfl _ _ w.heap.size (.bool false) (.string s) (.slice none 0 0) rfl ?_ ?_ ?_) rfl ?_
  · simp [go_sem]
  · simp [go_sem]
  · simp [go_sem]
  exact ⟨rfl, laid1 w _⟩
set_option maxRecDepth 100000 in
theorem listRef_any (p : Option Addr) (n c : Nat) (w : World) : Calls Tryd.prog 39 #[.slice p n c] w fun e w' => e = .returned (.agg #[.bool true, .string ⟨#[]⟩, .slice p n c]) ∧ Below w.heap.size w w' := by
  go_enter Tryd.func39, Tryd.ntmps39
  go_wp2
  refine bodyPost_ret (results_item0 rfl _ _ w.heap.size (.bool true) (.string ⟨#[]⟩) (.slice p n c) rfl ?_ ?_ ?_) rfl ?_
  · simp [go_sem]
  · simp [go_sem]
  · simp [go_sem]
  exact ⟨rfl, laid1 w _⟩

theorem strip_zero (l : List UInt8) : strip (0 :: l) = strip l := rfl
theorem strip_else {c : UInt8} (h : c ≠ 0) (l : List UInt8) : strip (c :: l) = c :: l := by
  unfold strip; rw [List.dropWhile_cons, if_neg (by simpa using h)]

set_option maxRecDepth 100000 in
set_option maxHeartbeats 1600000 in
theorem shortRef_any (v : Nat) (w : World) : Calls Tryd.prog 34 #[wordV v] w fun e w' => e = .returned (.string ⟨(shortW v).toArray⟩) ∧ Below w.heap.size w w' := by
  have H1 := Lib.hid (fun W => wordBytesRef_any v W)
  obtain ⟨x0, x1, x2, x3, hv, -⟩ := wordV_form v
  rw [hv] at H1 ⊢
  obtain ⟨bl, hbl⟩ : ∃ bl, be 32 v = bl := ⟨_, rfl⟩
  have hs : shortW v = strip bl := by rw [← hbl]; rfl
  rw [hbl] at H1
  rw [hs]
  clear hbl hs hv
  go_enter Tryd.func34, Tryd.ntmps34
  go_wp2_with fail
  refine (H1.out _).mono ?_
  rintro e w1 ⟨rfl, hb1⟩
  have hB1 := Lib.hid ((laid1 w (.cells #[.int .u64 x0, .int .u64 x1, .int .u64 x2, .int .u64 x3] 24)).trans (hb1.mono (by simp)))
  clear hb1
  go_wp2
  go_loopw [3] (fun s wr => ∃ l : List UInt8, s = .string ⟨l.toArray⟩ ∧ Hid (strip l = strip bl) ∧ wr = w1) (fun s _ => match s with | .string t => t.size | _ => 0)
  case atStart => exact ⟨bl, rfl, Lib.hid rfl, rfl⟩
  case round =>
    obtain ⟨l, rfl, Hl, rfl⟩ := hrel
    cases l with
    | nil =>
      go_wp2
      go_ret
      exact ⟨by rw [← Hl.out]; rfl, hB1.out⟩
    | cons c r =>
      have hsz : (⟨(c :: r).toArray⟩ : ByteArray).size = r.length + 1 := by simp [ByteArray.size]
      have hpos : decide ((0 : Int) < ((r.length + 1 : Nat) : Int)) = true := by simp
      have hgt : decide ((0 : Int) < (r.length : Int) + 1) = true := by simp
      have hc0 : ∀ (h : 0 < (⟨(c :: r).toArray⟩ : ByteArray).size), (⟨(c :: r).toArray⟩ : ByteArray)[0]'h = c := fun h => rfl
      have hex : (⟨(c :: r).toArray⟩ : ByteArray).extract 1 (r.length + 1) = ⟨r.toArray⟩ := by
        have := ext_mk (c :: r) 1 (r.length + 1)
        rw [this]
        simp
      by_cases h0 : c = 0
      · subst h0
        go_wp2
        refine ⟨⟨r, rfl, Lib.hid (by rw [← Hl.out]; rfl), trivial⟩, ?_⟩
        show (⟨r.toArray⟩ : ByteArray).size < (⟨(0 :: r).toArray⟩ : ByteArray).size
        simp [ByteArray.size]
      · have hne : ((c.toNat : Int) == 0) = false := by
          rw [beq_eq_false_iff_ne]
          intro e
          exact h0 (UInt8.toNat_inj.1 (by simpa using e))
        have HN := Lib.hid h0
        clear h0
        go_wp2
        go_ret
        exact ⟨by rw [← Hl.out, strip_else HN.out]; rfl, hB1.out⟩

/-- what the reference says of bytes as a word -/
theorem wordFromRef_lit {t : List UInt8} {v : Nat} (h : wordOf t = v) (ht : t.length ≤ 1099511627776) (w : World) : Calls Tryd.prog 55 #[.string ⟨t.toArray⟩] w fun e w' => e = .returned (wordV v) ∧ Below w.heap.size w w' := by
  have := wordFromRef_any ⟨t.toArray⟩ w ht
  simp only [h] at this
  exact this

set_option maxRecDepth 100000 in
set_option maxHeartbeats 1600000 in
theorem wordOfRef_any (t : List UInt8) (w : World) (ht : t.length ≤ 1099511627776) : Calls Tryd.prog 28 #[.string ⟨t.toArray⟩] w fun e w' => e = .returned (.tuple #[wordV (wordOf t), .bool (isShortW t)]) ∧ Below w.heap.size w w' := by
  obtain ⟨v, hv⟩ : ∃ v, wordOf t = v := ⟨_, rfl⟩
  have H1 := Lib.hid (fun W => wordFromRef_lit hv ht W)
  rw [hv]
  obtain ⟨x0, x1, x2, x3, hw, -⟩ := wordV_form v
  rw [hw] at H1
  have HW := Lib.hid hw
  clear hv hw
  have hlen : (⟨t.toArray⟩ : ByteArray).size = t.length := by simp [ByteArray.size]
  by_cases hl : t.length ≤ 32
  · cases t with
    | nil =>
      have e1 : isShortW [] = true := rfl
      rw [e1]
      go_enter Tryd.func28, Tryd.ntmps28
      go_wp2
      refine wp_region_held_drew (S := fun _ => True) (by kernel_rfl) (trivial) (fun hHeld => ?_)
      refine wpAnyH_take (i := 0) (v := .string ⟨#[]⟩) rfl (by kernel_rfl) (by kernel_rfl) (by kernel_rfl) (fun _ _ _ h => h) (.inl ⟨by rfl, ?_⟩) (by assumption) ?_
      · intro w0 hSw
        go_simp
      simp only [Act.put, List.getElem_toArray, List.getElem_cons_zero, List.setIfInBounds_toArray, List.set_cons_zero, List.set_cons_succ]
      refine wpAnyH_take (i := 2) (v := .string ⟨#[]⟩) rfl (by kernel_rfl) (by kernel_rfl) (by kernel_rfl) (fun _ _ _ h => h) (.inl ⟨by rfl, ?_⟩) (by assumption) ?_
      · intro w0 hSw
        go_simp
      simp only [Act.put, List.getElem_toArray, List.getElem_cons_zero, List.getElem_cons_succ, List.setIfInBounds_toArray, List.set_cons_zero, List.set_cons_succ]
      refine wpAnyH_take (i := 3) (v := .int .i64 0) rfl (by kernel_rfl) (by kernel_rfl) (by kernel_rfl) (fun _ _ _ h => h) (.inl ⟨by rfl, ?_⟩) (by assumption) ?_
      · intro w0 hSw
        go_simp
      simp only [Act.put, List.getElem_toArray, List.getElem_cons_zero, List.getElem_cons_succ, List.setIfInBounds_toArray, List.set_cons_zero, List.set_cons_succ]
      refine wpAnyH_take (i := 4) (v := .bool true) rfl (by kernel_rfl) (by kernel_rfl) (by kernel_rfl) (fun _ _ _ h => h) (.inl ⟨by rfl, ?_⟩) (by assumption) ?_
      · intro w0 hSw
        go_simp
      simp only [Act.put, List.getElem_toArray, List.getElem_cons_zero, List.getElem_cons_succ, List.setIfInBounds_toArray, List.set_cons_zero, List.set_cons_succ]
      refine wpAnyH_ready (rs := [1]) (by kernel_rfl) (by simp) ?_
      refine AllReadyH.cons rfl (fun K hK => ?_) AllReadyH.nil
      go_simp
      go_at_call 55
      refine (H1.out _).mono ?_
      rintro e w1 ⟨rfl, hb1⟩
      have hA : Box4 w1 w.heap.size 0 := (Box4.new0 w 24).kept ((hb1.block _ (by simp)).trans rfl)
      have HA := Lib.hid hA
      obtain ⟨d0, d1, d2, d3, d4⟩ := hA
      refine hK.out _ _ (trivial) (fun hHeld => ?_)
      clear hK K
      try simp only [Act.put, List.getElem_toArray, List.getElem_cons_zero, List.getElem_cons_succ, List.setIfInBounds_toArray, List.set_cons_zero, List.set_cons_succ]
      refine wpAnyH_take (i := 5) (v := .bool true) rfl (by kernel_rfl) (by kernel_rfl) (by kernel_rfl) (fun _ _ _ h => h) (.inl ⟨by rfl, ?_⟩) (by assumption) ?_
      · intro w0 hSw
        go_simp
      simp only [Act.put, List.getElem_toArray, List.getElem_cons_zero, List.getElem_cons_succ, List.setIfInBounds_toArray, List.set_cons_zero, List.set_cons_succ]
      refine wpAnyH_take (i := 6) (v := .string ⟨#[]⟩) rfl (by kernel_rfl) (by kernel_rfl) (by kernel_rfl) (fun _ _ _ h => h) (.inl ⟨by rfl, ?_⟩) (by assumption) ?_
      · intro w0 hSw
        go_simp
      simp only [Act.put, List.getElem_toArray, List.getElem_cons_zero, List.getElem_cons_succ, List.setIfInBounds_toArray, List.set_cons_zero, List.set_cons_succ]
      refine wpAnyH_take (i := 7) (v := .int .i64 0) rfl (by kernel_rfl) (by kernel_rfl) (by kernel_rfl) (fun _ _ _ h => h) (.inl ⟨by rfl, ?_⟩) (by assumption) ?_
      · intro w0 hSw
        go_simp
      simp only [Act.put, List.getElem_toArray, List.getElem_cons_zero, List.getElem_cons_succ, List.setIfInBounds_toArray, List.set_cons_zero, List.set_cons_succ]
      refine wpAnyH_take (i := 8) (v := .bool true) rfl (by kernel_rfl) (by kernel_rfl) (by kernel_rfl) (fun _ _ _ h => h) (.inl ⟨by rfl, ?_⟩) (by assumption) ?_
      · intro w0 hSw
        go_simp
      simp only [Act.put, List.getElem_toArray, List.getElem_cons_zero, List.getElem_cons_succ, List.setIfInBounds_toArray, List.set_cons_zero, List.set_cons_succ]
      refine wpAnyH_take (i := 9) (v := .bool true) rfl (by kernel_rfl) (by kernel_rfl) (by kernel_rfl) (fun _ _ _ h => h) (.inl ⟨by rfl, ?_⟩) (by assumption) ?_
      · intro w0 hSw
        go_simp
      simp only [Act.put, List.getElem_toArray, List.getElem_cons_zero, List.getElem_cons_succ, List.setIfInBounds_toArray, List.set_cons_zero, List.set_cons_succ]
      refine wpAnyH_take (i := 10) (v := undef) rfl (by kernel_rfl) (by kernel_rfl) (by kernel_rfl) (fun _ _ _ h => h) (.inr ⟨by rfl, rfl⟩) (by assumption) ?_
      simp only [Act.put, List.getElem_toArray, List.getElem_cons_zero, List.getElem_cons_succ, List.setIfInBounds_toArray, List.set_cons_zero, List.set_cons_succ]
      refine wpAnyH_take (i := 11) (v := undef) rfl (by kernel_rfl) (by kernel_rfl) (by kernel_rfl) (fun _ _ _ h => h) (.inr ⟨by rfl, rfl⟩) (by assumption) ?_
      simp only [Act.put, List.getElem_toArray, List.getElem_cons_zero, List.getElem_cons_succ, List.setIfInBounds_toArray, List.set_cons_zero, List.set_cons_succ]
      refine wpAnyH_take (i := 12) (v := undef) rfl (by kernel_rfl) (by kernel_rfl) (by kernel_rfl) (fun _ _ _ h => h) (.inr ⟨by rfl, rfl⟩) (by assumption) ?_
      simp only [Act.put, List.getElem_toArray, List.getElem_cons_zero, List.getElem_cons_succ, List.setIfInBounds_toArray, List.set_cons_zero, List.set_cons_succ]
      refine wpAnyH_take (i := 13) (v := .bool true) rfl (by kernel_rfl) (by kernel_rfl) (by kernel_rfl) (fun _ _ _ h => h) (.inl ⟨by rfl, ?_⟩) (by assumption) ?_
      · intro w0 hSw
        go_simp
      simp only [Act.put, List.getElem_toArray, List.getElem_cons_zero, List.getElem_cons_succ, List.setIfInBounds_toArray, List.set_cons_zero, List.set_cons_succ]
      refine wpAnyH_take (i := 14) (v := .bool true) rfl (by kernel_rfl) (by kernel_rfl) (by kernel_rfl) (fun _ _ _ h => h) (.inl ⟨by rfl, ?_⟩) (by assumption) ?_
      · intro w0 hSw
        go_simp
      simp only [Act.put, List.getElem_toArray, List.getElem_cons_zero, List.getElem_cons_succ, List.setIfInBounds_toArray, List.set_cons_zero, List.set_cons_succ]
      refine wpAnyH_ready (rs := [15]) (by kernel_rfl) (by simp) ?_
      refine AllReadyH.cons rfl (fun K hK => ?_) AllReadyH.nil
      go_simp
      refine hK.out _ _ (trivial) (fun hHeld => ?_)
      clear hK K
      try simp only [Act.put, List.getElem_toArray, List.getElem_cons_zero, List.getElem_cons_succ, List.setIfInBounds_toArray, List.set_cons_zero, List.set_cons_succ]
      refine wpAnyH_take (i := 16) (v := .bool true) rfl (by kernel_rfl) (by kernel_rfl) (by kernel_rfl) (fun _ _ _ h => h) (.inl ⟨by rfl, ?_⟩) (by assumption) ?_
      · intro w0 hSw
        go_simp
      simp only [Act.put, List.getElem_toArray, List.getElem_cons_zero, List.getElem_cons_succ, List.setIfInBounds_toArray, List.set_cons_zero, List.set_cons_succ]
      refine wpAnyH_done (by kernel_rfl) ?_ 0
      go_wp2
      refine bodyPost_ret (results_word1 rfl _ _ w.heap.size v rfl (HA.out.setL HW.out)) rfl ?_
      exact ⟨rfl, Below.set4 ((laid1 w _).drew.trans (hb1.mono (by simp))) (Nat.le_refl _) _ _ _ _⟩
    | cons c r =>
      by_cases hc : c = 0
      · subst hc
        have e1 : isShortW (0 :: r) = false := by unfold isShortW; simp [Lib.hasPrefix]
        rw [e1]
        have h1 : decide ((r.length : Int) + 1 ≤ 32) = true := by simp at hl; simp; omega
        have h2 : ((r.length : Int) + 1 == 0) = false := by rw [beq_eq_false_iff_ne]; omega
        have hc0 : ∀ (h : 0 < (⟨((0 : UInt8) :: r).toArray⟩ : ByteArray).size), (⟨((0 : UInt8) :: r).toArray⟩ : ByteArray)[0]'h = 0 := fun h => rfl
        go_enter Tryd.func28, Tryd.ntmps28
        go_wp2
        refine wp_region_held_drew (S := fun _ => True) (by kernel_rfl) (trivial) (fun hHeld => ?_)
        refine wpAnyH_take (i := 0) (v := .string ⟨((0 : UInt8) :: r).toArray⟩) rfl (by kernel_rfl) (by kernel_rfl) (by kernel_rfl) (fun _ _ _ h => h) (.inl ⟨by rfl, ?_⟩) (by assumption) ?_
        · intro w0 hSw
          go_simp
        simp only [Act.put, List.getElem_toArray, List.getElem_cons_zero, List.setIfInBounds_toArray, List.set_cons_zero, List.set_cons_succ]
        refine wpAnyH_take (i := 2) (v := .string ⟨((0 : UInt8) :: r).toArray⟩) rfl (by kernel_rfl) (by kernel_rfl) (by kernel_rfl) (fun _ _ _ h => h) (.inl ⟨by rfl, ?_⟩) (by assumption) ?_
        · intro w0 hSw
          go_simp
        simp only [Act.put, List.getElem_toArray, List.getElem_cons_zero, List.getElem_cons_succ, List.setIfInBounds_toArray, List.set_cons_zero, List.set_cons_succ]
        refine wpAnyH_take (i := 3) (v := .int .i64 ((r.length : Int) + 1)) rfl (by kernel_rfl) (by kernel_rfl) (by kernel_rfl) (fun _ _ _ h => h) (.inl ⟨by rfl, ?_⟩) (by assumption) ?_
        · intro w0 hSw
          go_simp
        simp only [Act.put, List.getElem_toArray, List.getElem_cons_zero, List.getElem_cons_succ, List.setIfInBounds_toArray, List.set_cons_zero, List.set_cons_succ]
        refine wpAnyH_take (i := 4) (v := .bool true) rfl (by kernel_rfl) (by kernel_rfl) (by kernel_rfl) (fun _ _ _ h => h) (.inl ⟨by rfl, ?_⟩) (by assumption) ?_
        · intro w0 hSw
          go_simp
        simp only [Act.put, List.getElem_toArray, List.getElem_cons_zero, List.getElem_cons_succ, List.setIfInBounds_toArray, List.set_cons_zero, List.set_cons_succ]
        refine wpAnyH_ready (rs := [1]) (by kernel_rfl) (by simp) ?_
        refine AllReadyH.cons rfl (fun K hK => ?_) AllReadyH.nil
        go_simp
        go_at_call 55
        refine (H1.out _).mono ?_
        rintro e w1 ⟨rfl, hb1⟩
        have hA : Box4 w1 w.heap.size 0 := (Box4.new0 w 24).kept ((hb1.block _ (by simp)).trans rfl)
        have HA := Lib.hid hA
        obtain ⟨d0, d1, d2, d3, d4⟩ := hA
        refine hK.out _ _ (trivial) (fun hHeld => ?_)
        clear hK K
        try simp only [Act.put, List.getElem_toArray, List.getElem_cons_zero, List.getElem_cons_succ, List.setIfInBounds_toArray, List.set_cons_zero, List.set_cons_succ]
        refine wpAnyH_take (i := 5) (v := .bool true) rfl (by kernel_rfl) (by kernel_rfl) (by kernel_rfl) (fun _ _ _ h => h) (.inl ⟨by rfl, ?_⟩) (by assumption) ?_
        · intro w0 hSw
          go_simp
        simp only [Act.put, List.getElem_toArray, List.getElem_cons_zero, List.getElem_cons_succ, List.setIfInBounds_toArray, List.set_cons_zero, List.set_cons_succ]
        refine wpAnyH_take (i := 6) (v := .string ⟨((0 : UInt8) :: r).toArray⟩) rfl (by kernel_rfl) (by kernel_rfl) (by kernel_rfl) (fun _ _ _ h => h) (.inl ⟨by rfl, ?_⟩) (by assumption) ?_
        · intro w0 hSw
          go_simp
        simp only [Act.put, List.getElem_toArray, List.getElem_cons_zero, List.getElem_cons_succ, List.setIfInBounds_toArray, List.set_cons_zero, List.set_cons_succ]
        refine wpAnyH_take (i := 7) (v := .int .i64 ((r.length : Int) + 1)) rfl (by kernel_rfl) (by kernel_rfl) (by kernel_rfl) (fun _ _ _ h => h) (.inl ⟨by rfl, ?_⟩) (by assumption) ?_
        · intro w0 hSw
          go_simp
        simp only [Act.put, List.getElem_toArray, List.getElem_cons_zero, List.getElem_cons_succ, List.setIfInBounds_toArray, List.set_cons_zero, List.set_cons_succ]
        refine wpAnyH_take (i := 8) (v := .bool false) rfl (by kernel_rfl) (by kernel_rfl) (by kernel_rfl) (fun _ _ _ h => h) (.inl ⟨by rfl, ?_⟩) (by assumption) ?_
        · intro w0 hSw
          go_simp
        simp only [Act.put, List.getElem_toArray, List.getElem_cons_zero, List.getElem_cons_succ, List.setIfInBounds_toArray, List.set_cons_zero, List.set_cons_succ]
        refine wpAnyH_take (i := 9) (v := .bool false) rfl (by kernel_rfl) (by kernel_rfl) (by kernel_rfl) (fun _ _ _ h => h) (.inl ⟨by rfl, ?_⟩) (by assumption) ?_
        · intro w0 hSw
          go_simp
        simp only [Act.put, List.getElem_toArray, List.getElem_cons_zero, List.getElem_cons_succ, List.setIfInBounds_toArray, List.set_cons_zero, List.set_cons_succ]
        refine wpAnyH_take (i := 10) (v := .string ⟨((0 : UInt8) :: r).toArray⟩) rfl (by kernel_rfl) (by kernel_rfl) (by kernel_rfl) (fun _ _ _ h => h) (.inl ⟨by rfl, ?_⟩) (by assumption) ?_
        · intro w0 hSw
          go_simp
        simp only [Act.put, List.getElem_toArray, List.getElem_cons_zero, List.getElem_cons_succ, List.setIfInBounds_toArray, List.set_cons_zero, List.set_cons_succ]
        refine wpAnyH_take (i := 11) (v := .int .u8 0) rfl (by kernel_rfl) (by kernel_rfl) (by kernel_rfl) (fun _ _ _ h => h) (.inl ⟨by rfl, ?_⟩) (by assumption) ?_
        · intro w0 hSw
          go_simp
        simp only [Act.put, List.getElem_toArray, List.getElem_cons_zero, List.getElem_cons_succ, List.setIfInBounds_toArray, List.set_cons_zero, List.set_cons_succ]
        refine wpAnyH_take (i := 12) (v := .bool false) rfl (by kernel_rfl) (by kernel_rfl) (by kernel_rfl) (fun _ _ _ h => h) (.inl ⟨by rfl, ?_⟩) (by assumption) ?_
        · intro w0 hSw
          go_simp
        simp only [Act.put, List.getElem_toArray, List.getElem_cons_zero, List.getElem_cons_succ, List.setIfInBounds_toArray, List.set_cons_zero, List.set_cons_succ]
        refine wpAnyH_take (i := 13) (v := .bool false) rfl (by kernel_rfl) (by kernel_rfl) (by kernel_rfl) (fun _ _ _ h => h) (.inl ⟨by rfl, ?_⟩) (by assumption) ?_
        · intro w0 hSw
          go_simp
        simp only [Act.put, List.getElem_toArray, List.getElem_cons_zero, List.getElem_cons_succ, List.setIfInBounds_toArray, List.set_cons_zero, List.set_cons_succ]
        refine wpAnyH_take (i := 14) (v := .bool false) rfl (by kernel_rfl) (by kernel_rfl) (by kernel_rfl) (fun _ _ _ h => h) (.inl ⟨by rfl, ?_⟩) (by assumption) ?_
        · intro w0 hSw
          go_simp
        simp only [Act.put, List.getElem_toArray, List.getElem_cons_zero, List.getElem_cons_succ, List.setIfInBounds_toArray, List.set_cons_zero, List.set_cons_succ]
        refine wpAnyH_ready (rs := [15]) (by kernel_rfl) (by simp) ?_
        refine AllReadyH.cons rfl (fun K hK => ?_) AllReadyH.nil
        go_simp
        refine hK.out _ _ (trivial) (fun hHeld => ?_)
        clear hK K
        try simp only [Act.put, List.getElem_toArray, List.getElem_cons_zero, List.getElem_cons_succ, List.setIfInBounds_toArray, List.set_cons_zero, List.set_cons_succ]
        refine wpAnyH_take (i := 16) (v := .bool false) rfl (by kernel_rfl) (by kernel_rfl) (by kernel_rfl) (fun _ _ _ h => h) (.inl ⟨by rfl, ?_⟩) (by assumption) ?_
        · intro w0 hSw
          go_simp
        simp only [Act.put, List.getElem_toArray, List.getElem_cons_zero, List.getElem_cons_succ, List.setIfInBounds_toArray, List.set_cons_zero, List.set_cons_succ]
        refine wpAnyH_done (by kernel_rfl) ?_ 0
        go_wp2
        refine bodyPost_ret (results_word1 rfl _ _ w.heap.size v rfl (HA.out.setL HW.out)) rfl ?_
        exact ⟨rfl, Below.set4 ((laid1 w _).drew.trans (hb1.mono (by simp))) (Nat.le_refl _) _ _ _ _⟩
      · have e1 : isShortW (c :: r) = true := isShortW_iff.2 ⟨hl, by simpa using hc⟩
        rw [e1]
        have h1 : decide ((r.length : Int) + 1 ≤ 32) = true := by simp at hl; simp; omega
        have h2 : ((r.length : Int) + 1 == 0) = false := by rw [beq_eq_false_iff_ne]; omega
        have hc0 : ∀ (h : 0 < (⟨(c :: r).toArray⟩ : ByteArray).size), (⟨(c :: r).toArray⟩ : ByteArray)[0]'h = c := fun h => rfl
        have h3 : ((c.toNat : Int) != 0) = true := by
          rw [bne_iff_ne]
          intro e
          exact hc (UInt8.toNat_inj.1 (by simpa using e))
        clear hc
        go_enter Tryd.func28, Tryd.ntmps28
        go_wp2
        refine wp_region_held_drew (S := fun _ => True) (by kernel_rfl) (trivial) (fun hHeld => ?_)
        refine wpAnyH_take (i := 0) (v := .string ⟨(c :: r).toArray⟩) rfl (by kernel_rfl) (by kernel_rfl) (by kernel_rfl) (fun _ _ _ h => h) (.inl ⟨by rfl, ?_⟩) (by assumption) ?_
        · intro w0 hSw
          go_simp
        simp only [Act.put, List.getElem_toArray, List.getElem_cons_zero, List.setIfInBounds_toArray, List.set_cons_zero, List.set_cons_succ]
        refine wpAnyH_take (i := 2) (v := .string ⟨(c :: r).toArray⟩) rfl (by kernel_rfl) (by kernel_rfl) (by kernel_rfl) (fun _ _ _ h => h) (.inl ⟨by rfl, ?_⟩) (by assumption) ?_
        · intro w0 hSw
          go_simp
        simp only [Act.put, List.getElem_toArray, List.getElem_cons_zero, List.getElem_cons_succ, List.setIfInBounds_toArray, List.set_cons_zero, List.set_cons_succ]
        refine wpAnyH_take (i := 3) (v := .int .i64 ((r.length : Int) + 1)) rfl (by kernel_rfl) (by kernel_rfl) (by kernel_rfl) (fun _ _ _ h => h) (.inl ⟨by rfl, ?_⟩) (by assumption) ?_
        · intro w0 hSw
          go_simp
        simp only [Act.put, List.getElem_toArray, List.getElem_cons_zero, List.getElem_cons_succ, List.setIfInBounds_toArray, List.set_cons_zero, List.set_cons_succ]
        refine wpAnyH_take (i := 4) (v := .bool true) rfl (by kernel_rfl) (by kernel_rfl) (by kernel_rfl) (fun _ _ _ h => h) (.inl ⟨by rfl, ?_⟩) (by assumption) ?_
        · intro w0 hSw
          go_simp
        simp only [Act.put, List.getElem_toArray, List.getElem_cons_zero, List.getElem_cons_succ, List.setIfInBounds_toArray, List.set_cons_zero, List.set_cons_succ]
        refine wpAnyH_ready (rs := [1]) (by kernel_rfl) (by simp) ?_
        refine AllReadyH.cons rfl (fun K hK => ?_) AllReadyH.nil
        go_simp
        go_at_call 55
        refine (H1.out _).mono ?_
        rintro e w1 ⟨rfl, hb1⟩
        have hA : Box4 w1 w.heap.size 0 := (Box4.new0 w 24).kept ((hb1.block _ (by simp)).trans rfl)
        have HA := Lib.hid hA
        obtain ⟨d0, d1, d2, d3, d4⟩ := hA
        refine hK.out _ _ (trivial) (fun hHeld => ?_)
        clear hK K
        try simp only [Act.put, List.getElem_toArray, List.getElem_cons_zero, List.getElem_cons_succ, List.setIfInBounds_toArray, List.set_cons_zero, List.set_cons_succ]
        refine wpAnyH_take (i := 5) (v := .bool true) rfl (by kernel_rfl) (by kernel_rfl) (by kernel_rfl) (fun _ _ _ h => h) (.inl ⟨by rfl, ?_⟩) (by assumption) ?_
        · intro w0 hSw
          go_simp
        simp only [Act.put, List.getElem_toArray, List.getElem_cons_zero, List.getElem_cons_succ, List.setIfInBounds_toArray, List.set_cons_zero, List.set_cons_succ]
        refine wpAnyH_take (i := 6) (v := .string ⟨(c :: r).toArray⟩) rfl (by kernel_rfl) (by kernel_rfl) (by kernel_rfl) (fun _ _ _ h => h) (.inl ⟨by rfl, ?_⟩) (by assumption) ?_
        · intro w0 hSw
          go_simp
        simp only [Act.put, List.getElem_toArray, List.getElem_cons_zero, List.getElem_cons_succ, List.setIfInBounds_toArray, List.set_cons_zero, List.set_cons_succ]
        refine wpAnyH_take (i := 7) (v := .int .i64 ((r.length : Int) + 1)) rfl (by kernel_rfl) (by kernel_rfl) (by kernel_rfl) (fun _ _ _ h => h) (.inl ⟨by rfl, ?_⟩) (by assumption) ?_
        · intro w0 hSw
          go_simp
        simp only [Act.put, List.getElem_toArray, List.getElem_cons_zero, List.getElem_cons_succ, List.setIfInBounds_toArray, List.set_cons_zero, List.set_cons_succ]
        refine wpAnyH_take (i := 8) (v := .bool false) rfl (by kernel_rfl) (by kernel_rfl) (by kernel_rfl) (fun _ _ _ h => h) (.inl ⟨by rfl, ?_⟩) (by assumption) ?_
        · intro w0 hSw
          go_simp
        simp only [Act.put, List.getElem_toArray, List.getElem_cons_zero, List.getElem_cons_succ, List.setIfInBounds_toArray, List.set_cons_zero, List.set_cons_succ]
        refine wpAnyH_take (i := 9) (v := .bool false) rfl (by kernel_rfl) (by kernel_rfl) (by kernel_rfl) (fun _ _ _ h => h) (.inl ⟨by rfl, ?_⟩) (by assumption) ?_
        · intro w0 hSw
          go_simp
        simp only [Act.put, List.getElem_toArray, List.getElem_cons_zero, List.getElem_cons_succ, List.setIfInBounds_toArray, List.set_cons_zero, List.set_cons_succ]
        refine wpAnyH_take (i := 10) (v := .string ⟨(c :: r).toArray⟩) rfl (by kernel_rfl) (by kernel_rfl) (by kernel_rfl) (fun _ _ _ h => h) (.inl ⟨by rfl, ?_⟩) (by assumption) ?_
        · intro w0 hSw
          go_simp
        simp only [Act.put, List.getElem_toArray, List.getElem_cons_zero, List.getElem_cons_succ, List.setIfInBounds_toArray, List.set_cons_zero, List.set_cons_succ]
        refine wpAnyH_take (i := 11) (v := .int .u8 c.toNat) rfl (by kernel_rfl) (by kernel_rfl) (by kernel_rfl) (fun _ _ _ h => h) (.inl ⟨by rfl, ?_⟩) (by assumption) ?_
        · intro w0 hSw
          go_simp
        simp only [Act.put, List.getElem_toArray, List.getElem_cons_zero, List.getElem_cons_succ, List.setIfInBounds_toArray, List.set_cons_zero, List.set_cons_succ]
        refine wpAnyH_take (i := 12) (v := .bool true) rfl (by kernel_rfl) (by kernel_rfl) (by kernel_rfl) (fun _ _ _ h => h) (.inl ⟨by rfl, ?_⟩) (by assumption) ?_
        · intro w0 hSw
          go_simp
        simp only [Act.put, List.getElem_toArray, List.getElem_cons_zero, List.getElem_cons_succ, List.setIfInBounds_toArray, List.set_cons_zero, List.set_cons_succ]
        refine wpAnyH_take (i := 13) (v := .bool true) rfl (by kernel_rfl) (by kernel_rfl) (by kernel_rfl) (fun _ _ _ h => h) (.inl ⟨by rfl, ?_⟩) (by assumption) ?_
        · intro w0 hSw
          go_simp
        simp only [Act.put, List.getElem_toArray, List.getElem_cons_zero, List.getElem_cons_succ, List.setIfInBounds_toArray, List.set_cons_zero, List.set_cons_succ]
        refine wpAnyH_take (i := 14) (v := .bool true) rfl (by kernel_rfl) (by kernel_rfl) (by kernel_rfl) (fun _ _ _ h => h) (.inl ⟨by rfl, ?_⟩) (by assumption) ?_
        · intro w0 hSw
          go_simp
        simp only [Act.put, List.getElem_toArray, List.getElem_cons_zero, List.getElem_cons_succ, List.setIfInBounds_toArray, List.set_cons_zero, List.set_cons_succ]
        refine wpAnyH_ready (rs := [15]) (by kernel_rfl) (by simp) ?_
        refine AllReadyH.cons rfl (fun K hK => ?_) AllReadyH.nil
        go_simp
        refine hK.out _ _ (trivial) (fun hHeld => ?_)
        clear hK K
        try simp only [Act.put, List.getElem_toArray, List.getElem_cons_zero, List.getElem_cons_succ, List.setIfInBounds_toArray, List.set_cons_zero, List.set_cons_succ]
        refine wpAnyH_take (i := 16) (v := .bool true) rfl (by kernel_rfl) (by kernel_rfl) (by kernel_rfl) (fun _ _ _ h => h) (.inl ⟨by rfl, ?_⟩) (by assumption) ?_
        · intro w0 hSw
          go_simp
        simp only [Act.put, List.getElem_toArray, List.getElem_cons_zero, List.getElem_cons_succ, List.setIfInBounds_toArray, List.set_cons_zero, List.set_cons_succ]
        refine wpAnyH_done (by kernel_rfl) ?_ 0
        go_wp2
        refine bodyPost_ret (results_word1 rfl _ _ w.heap.size v rfl (HA.out.setL HW.out)) rfl ?_
        exact ⟨rfl, Below.set4 ((laid1 w _).drew.trans (hb1.mono (by simp))) (Nat.le_refl _) _ _ _ _⟩
  · have e1 : isShortW t = false := by unfold isShortW; simp [hl]
    rw [e1]
    have h1 : decide ((t.length : Int) ≤ 32) = false := by simp; omega
    go_enter Tryd.func28, Tryd.ntmps28
    go_wp2
    refine wp_region_held_drew (S := fun _ => True) (by kernel_rfl) (trivial) (fun hHeld => ?_)
    refine wpAnyH_take (i := 0) (v := .string ⟨t.toArray⟩) rfl (by kernel_rfl) (by kernel_rfl) (by kernel_rfl) (fun _ _ _ h => h) (.inl ⟨by rfl, ?_⟩) (by assumption) ?_
    · intro w0 hSw
      go_simp
    simp only [Act.put, List.getElem_toArray, List.getElem_cons_zero, List.setIfInBounds_toArray, List.set_cons_zero, List.set_cons_succ]
    refine wpAnyH_take (i := 2) (v := .string ⟨t.toArray⟩) rfl (by kernel_rfl) (by kernel_rfl) (by kernel_rfl) (fun _ _ _ h => h) (.inl ⟨by rfl, ?_⟩) (by assumption) ?_
    · intro w0 hSw
      go_simp
    simp only [Act.put, List.getElem_toArray, List.getElem_cons_zero, List.getElem_cons_succ, List.setIfInBounds_toArray, List.set_cons_zero, List.set_cons_succ]
    refine wpAnyH_take (i := 3) (v := .int .i64 t.length) rfl (by kernel_rfl) (by kernel_rfl) (by kernel_rfl) (fun _ _ _ h => h) (.inl ⟨by rfl, ?_⟩) (by assumption) ?_
    · intro w0 hSw
      go_simp
    simp only [Act.put, List.getElem_toArray, List.getElem_cons_zero, List.getElem_cons_succ, List.setIfInBounds_toArray, List.set_cons_zero, List.set_cons_succ]
    refine wpAnyH_take (i := 4) (v := .bool false) rfl (by kernel_rfl) (by kernel_rfl) (by kernel_rfl) (fun _ _ _ h => h) (.inl ⟨by rfl, ?_⟩) (by assumption) ?_
    · intro w0 hSw
      go_simp
    simp only [Act.put, List.getElem_toArray, List.getElem_cons_zero, List.getElem_cons_succ, List.setIfInBounds_toArray, List.set_cons_zero, List.set_cons_succ]
    refine wpAnyH_ready (rs := [1]) (by kernel_rfl) (by simp) ?_
    refine AllReadyH.cons rfl (fun K hK => ?_) AllReadyH.nil
    go_simp
    go_at_call 55
    refine (H1.out _).mono ?_
    rintro e w1 ⟨rfl, hb1⟩
    have hA : Box4 w1 w.heap.size 0 := (Box4.new0 w 24).kept ((hb1.block _ (by simp)).trans rfl)
    have HA := Lib.hid hA
    obtain ⟨d0, d1, d2, d3, d4⟩ := hA
    refine hK.out _ _ (trivial) (fun hHeld => ?_)
    clear hK K
    try simp only [Act.put, List.getElem_toArray, List.getElem_cons_zero, List.getElem_cons_succ, List.setIfInBounds_toArray, List.set_cons_zero, List.set_cons_succ]
    refine wpAnyH_take (i := 5) (v := .bool false) rfl (by kernel_rfl) (by kernel_rfl) (by kernel_rfl) (fun _ _ _ h => h) (.inl ⟨by rfl, ?_⟩) (by assumption) ?_
    · intro w0 hSw
      go_simp
    simp only [Act.put, List.getElem_toArray, List.getElem_cons_zero, List.getElem_cons_succ, List.setIfInBounds_toArray, List.set_cons_zero, List.set_cons_succ]
    refine wpAnyH_take (i := 6) (v := undef) rfl (by kernel_rfl) (by kernel_rfl) (by kernel_rfl) (fun _ _ _ h => h) (.inr ⟨by rfl, rfl⟩) (by assumption) ?_
    simp only [Act.put, List.getElem_toArray, List.getElem_cons_zero, List.getElem_cons_succ, List.setIfInBounds_toArray, List.set_cons_zero, List.set_cons_succ]
    refine wpAnyH_take (i := 7) (v := undef) rfl (by kernel_rfl) (by kernel_rfl) (by kernel_rfl) (fun _ _ _ h => h) (.inr ⟨by rfl, rfl⟩) (by assumption) ?_
    simp only [Act.put, List.getElem_toArray, List.getElem_cons_zero, List.getElem_cons_succ, List.setIfInBounds_toArray, List.set_cons_zero, List.set_cons_succ]
    refine wpAnyH_take (i := 8) (v := undef) rfl (by kernel_rfl) (by kernel_rfl) (by kernel_rfl) (fun _ _ _ h => h) (.inr ⟨by rfl, rfl⟩) (by assumption) ?_
    simp only [Act.put, List.getElem_toArray, List.getElem_cons_zero, List.getElem_cons_succ, List.setIfInBounds_toArray, List.set_cons_zero, List.set_cons_succ]
    refine wpAnyH_take (i := 9) (v := undef) rfl (by kernel_rfl) (by kernel_rfl) (by kernel_rfl) (fun _ _ _ h => h) (.inr ⟨by rfl, rfl⟩) (by assumption) ?_
    simp only [Act.put, List.getElem_toArray, List.getElem_cons_zero, List.getElem_cons_succ, List.setIfInBounds_toArray, List.set_cons_zero, List.set_cons_succ]
    refine wpAnyH_take (i := 10) (v := undef) rfl (by kernel_rfl) (by kernel_rfl) (by kernel_rfl) (fun _ _ _ h => h) (.inr ⟨by rfl, rfl⟩) (by assumption) ?_
    simp only [Act.put, List.getElem_toArray, List.getElem_cons_zero, List.getElem_cons_succ, List.setIfInBounds_toArray, List.set_cons_zero, List.set_cons_succ]
    refine wpAnyH_take (i := 11) (v := undef) rfl (by kernel_rfl) (by kernel_rfl) (by kernel_rfl) (fun _ _ _ h => h) (.inr ⟨by rfl, rfl⟩) (by assumption) ?_
    simp only [Act.put, List.getElem_toArray, List.getElem_cons_zero, List.getElem_cons_succ, List.setIfInBounds_toArray, List.set_cons_zero, List.set_cons_succ]
    refine wpAnyH_take (i := 12) (v := undef) rfl (by kernel_rfl) (by kernel_rfl) (by kernel_rfl) (fun _ _ _ h => h) (.inr ⟨by rfl, rfl⟩) (by assumption) ?_
    simp only [Act.put, List.getElem_toArray, List.getElem_cons_zero, List.getElem_cons_succ, List.setIfInBounds_toArray, List.set_cons_zero, List.set_cons_succ]
    refine wpAnyH_take (i := 13) (v := undef) rfl (by kernel_rfl) (by kernel_rfl) (by kernel_rfl) (fun _ _ _ h => h) (.inr ⟨by rfl, rfl⟩) (by assumption) ?_
    simp only [Act.put, List.getElem_toArray, List.getElem_cons_zero, List.getElem_cons_succ, List.setIfInBounds_toArray, List.set_cons_zero, List.set_cons_succ]
    refine wpAnyH_take (i := 14) (v := .bool false) rfl (by kernel_rfl) (by kernel_rfl) (by kernel_rfl) (fun _ _ _ h => h) (.inl ⟨by rfl, ?_⟩) (by assumption) ?_
    · intro w0 hSw
      go_simp
    simp only [Act.put, List.getElem_toArray, List.getElem_cons_zero, List.getElem_cons_succ, List.setIfInBounds_toArray, List.set_cons_zero, List.set_cons_succ]
    refine wpAnyH_ready (rs := [15]) (by kernel_rfl) (by simp) ?_
    refine AllReadyH.cons rfl (fun K hK => ?_) AllReadyH.nil
    go_simp
    refine hK.out _ _ (trivial) (fun hHeld => ?_)
    clear hK K
    try simp only [Act.put, List.getElem_toArray, List.getElem_cons_zero, List.getElem_cons_succ, List.setIfInBounds_toArray, List.set_cons_zero, List.set_cons_succ]
    refine wpAnyH_take (i := 16) (v := .bool false) rfl (by kernel_rfl) (by kernel_rfl) (by kernel_rfl) (fun _ _ _ h => h) (.inl ⟨by rfl, ?_⟩) (by assumption) ?_
    · intro w0 hSw
      go_simp
    simp only [Act.put, List.getElem_toArray, List.getElem_cons_zero, List.getElem_cons_succ, List.setIfInBounds_toArray, List.set_cons_zero, List.set_cons_succ]
    refine wpAnyH_done (by kernel_rfl) ?_ 0
    go_wp2
    refine bodyPost_ret (results_word1 rfl _ _ w.heap.size v rfl (HA.out.setL HW.out)) rfl ?_
    exact ⟨rfl, Below.set4 ((laid1 w _).drew.trans (hb1.mono (by simp))) (Nat.le_refl _) _ _ _ _⟩
end Go.Proofs.YtmjblnhnadffmaaDoor
/- Contracts of the reference's Slot and SlotFrom. -/
namespace Go.Proofs.YtmjblnhnadffmaaDoor
open Go.RowKit Go.Shelf Go.Lib

set_option maxRecDepth 100000 in
set_option maxHeartbeats 1600000 in
theorem slotRef_any (v : Nat) (w : World) : Calls Tryd.prog 12 #[wordV v] w fun e w' => e = .returned (.string ⟨(slotL v).toArray⟩) ∧ Below w.heap.size w w' := by
  have H1 := Lib.hid (fun W => shortRef_any v W)
  have hlen := shortW_length v
  obtain ⟨sl, hsl⟩ : ∃ sl, shortW v = sl := ⟨_, rfl⟩
  have H2 : ∀ W, Calls Tryd.prog 32 #[.agg #[.bool false, .string ⟨sl.toArray⟩, .slice none 0 0]] W fun e w' => e = .returned (.tuple #[.string ⟨(slotL v).toArray⟩, .int .i64 0]) ∧ Below W.heap.size W w' := by
    intro W
    have := encodeRef_any (.mk false sl []) (.slice none 0 0) W (by simp [Item.size, sizeAll]) (by
      have := encode_text (t := sl) (by rw [← hsl]; omega)
      obtain ⟨h, _⟩ := encode_ok this
      have h2 := (encode_ok this).2.2.2
      rw [← h]; omega) (Reads.nil _ _)
    unfold encodeV at this
    rw [encode_text (by rw [← hsl]; omega)] at this
    unfold slotL
    rw [hsl]
    exact this
  obtain ⟨tl, htl⟩ : ∃ tl, slotL v = tl := ⟨_, rfl⟩
  rw [htl] at H2 ⊢
  rw [hsl] at H1
  have HE := Lib.hid H2
  obtain ⟨x0, x1, x2, x3, hv, -⟩ := wordV_form v
  rw [hv] at H1 ⊢
  clear hv hsl htl H2 hlen
  go_enter Tryd.func12, Tryd.ntmps12
  go_wp2_with fail
  refine (H1.out _).mono ?_
  rintro e w1 ⟨rfl, hb1⟩
  go_wp2_with fail
  refine (textRef_any _ _).mono ?_
  rintro e w2 ⟨rfl, hb2⟩
  go_wp2_with fail
  refine (HE.out _).mono ?_
  rintro e w3 ⟨rfl, hb3⟩
  go_wp2
  go_ret
  have b1 := (laid1 w _).trans (hb1.mono (by simp))
  have b2 := b1.trans (hb2.mono b1.size)
  exact ⟨rfl, b2.trans (hb3.mono b2.size)⟩
theorem decodeRef_lit {s : List UInt8} {x : Item} {n : Int} (h : decode s = (x, n)) (hs : s.length ≤ 1099511627776) (w : World) :
    Calls Tryd.prog 27 #[.string ⟨s.toArray⟩] w fun e w' => Below w.heap.size w w' ∧ ∃ p c, e = .returned (.tuple #[.agg #[.bool x.isList, .string ⟨x.text.toArray⟩, .slice p x.list.length c], .int .i64 n]) ∧ Hid (Reads w' w'.heap.size (.slice p x.list.length c) x.list) := by
  refine (decodeRef_any s w hs).mono ?_
  rintro e w' ⟨hb, y, m, p, c, rfl, HD, HR⟩
  obtain ⟨rfl, rfl⟩ : y = x ∧ m = n := by have := HD.out.symm.trans h; cases this; exact ⟨rfl, rfl⟩
  exact ⟨hb, p, c, rfl, HR⟩
theorem wordOfRef_lit {t : List UInt8} {v : Nat} {b : Bool} (h : wordOf t = v) (hb : isShortW t = b) (ht : t.length ≤ 1099511627776) (w : World) : Calls Tryd.prog 28 #[.string ⟨t.toArray⟩] w fun e w' => e = .returned (.tuple #[wordV v, .bool b]) ∧ Below w.heap.size w w' := by
  rw [← h, ← hb]; exact wordOfRef_any t w ht

set_option maxRecDepth 100000 in
set_option maxHeartbeats 1200000 in
theorem slotFromRef_any (s : List UInt8) (w : World) (hs : s.length ≤ 1099511627776) :
    Calls Tryd.prog 10 #[.string ⟨s.toArray⟩] w fun e w' => e = .returned (.tuple #[wordV (slotFrom s).1, .int .i64 (slotFrom s).2]) ∧ Below w.heap.size w w' := by
  obtain ⟨x, n, hx⟩ : ∃ x n, decode s = (x, n) := ⟨_, _, rfl⟩
  have ht := decode_text_length hx
  have H1 := Lib.hid (fun W => decodeRef_lit hx hs W)
  obtain ⟨b, hb⟩ : ∃ b, isShortW x.text = b := ⟨_, rfl⟩
  obtain ⟨v, hv⟩ : ∃ v, wordOf x.text = v := ⟨_, rfl⟩
  have H2 := Lib.hid (fun W => wordOfRef_lit hv hb (by omega) W)
  obtain ⟨r, hr⟩ : ∃ r, slotFrom s = r := ⟨_, rfl⟩
  rw [hr]
  have hR := hr
  unfold slotFrom at hR
  rw [hx, hb, hv] at hR
  dsimp only at hR
  have hcase : (n ≠ 0 ∧ (n = 40 ∨ n = 41 ∨ n = 42)) ∨ n = 0 := by
    rcases decode_cases s with ⟨y, e⟩ | e | e | e <;> (have e2 := e.symm.trans hx; cases e2; simp)
  obtain ⟨x0, x1, x2, x3, hw, -⟩ := wordV_form v
  rw [hw] at H2
  obtain ⟨isl, hisl⟩ : ∃ l, x.isList = l := ⟨_, rfl⟩
  obtain ⟨t, htt⟩ : ∃ t, x.text = t := ⟨_, rfl⟩
  rw [hisl, htt] at H1
  rw [htt] at H2
  rw [hisl, htt] at hR
  go_enter Tryd.func10, Tryd.ntmps10
  go_wp2_with fail
  refine (H1.out _).mono ?_
  rintro e w1 ⟨hb1, p, c, rfl, -⟩
  go_wp2_with fail
  refine (H2.out _).mono ?_
  rintro e w2 ⟨rfl, hb2⟩
  have hX3 : Box3 w2 w1.heap.size (.bool isl) (.string ⟨t.toArray⟩) (.slice p x.list.length c) := (Box3.new w1 _ _ _ _).kept (hb2.block _ (by simp))
  obtain ⟨q0, q1, q2, q3⟩ := hX3
  have hz1 := hb1.size
  have hz2 := hb2.size
  simp at hz1 hz2
  have hA : Box4 w2 w.heap.size 0 := ((Box4.new0 w 24).kept (hb1.block _ (by simp))).kept ((hb2.block _ (by simp; omega)).trans (Below.heap_alloc _ _ _ (by omega)))
  have HA := Lib.hid hA
  obtain ⟨d0, d1, d2, d3, d4⟩ := hA
  have hB2 : Below w.heap.size w w2 := (((laid1 w _).trans (hb1.mono (by simp))).alloc (by omega) _).trans (hb2.mono (by simp; omega))
  have HB2 := Lib.hid hB2
  clear hB2
  have hl0 : w.heap.size < w2.heap.size := by omega
  have hl1 : w1.heap.size < w2.heap.size := by omega
  have HE := Lib.hid (slot_end HA.out hl0 HB2.out)
  have HG := Lib.hid (slot_good HA.out hl0 HB2.out hw)
  clear hx htt hisl hb hv ht
  rcases hcase with ⟨-, rfl | rfl | rfl⟩ | rfl
  · obtain rfl : r = (0, 160) := hR.symm
    go_wp2_with fail
    have hE := HE.out (.cells #[.int .u64 x0, .int .u64 x1, .int .u64 x2, .int .u64 x3] 24)
    refine bodyPost_ret (results_word1 rfl _ _ w.heap.size 0 rfl hE.1) rfl ?_
    exact ⟨rfl, hE.2⟩
  · obtain rfl : r = (0, 160) := hR.symm
    go_wp2_with fail
    have hE := HE.out (.cells #[.int .u64 x0, .int .u64 x1, .int .u64 x2, .int .u64 x3] 24)
    refine bodyPost_ret (results_word1 rfl _ _ w.heap.size 0 rfl hE.1) rfl ?_
    exact ⟨rfl, hE.2⟩
  · obtain rfl : r = (0, 160) := hR.symm
    go_wp2_with fail
    have hE := HE.out (.cells #[.int .u64 x0, .int .u64 x1, .int .u64 x2, .int .u64 x3] 24)
    refine bodyPost_ret (results_word1 rfl _ _ w.heap.size 0 rfl hE.1) rfl ?_
    exact ⟨rfl, hE.2⟩
  · cases isl with
    | true =>
      obtain rfl : r = (0, 160) := hR.symm
      go_wp2_with fail
      have hE := HE.out (.cells #[.int .u64 x0, .int .u64 x1, .int .u64 x2, .int .u64 x3] 24)
      refine bodyPost_ret (results_word1 rfl _ _ w.heap.size 0 rfl hE.1) rfl ?_
      exact ⟨rfl, hE.2⟩
    | false =>
      cases b with
      | false =>
        obtain rfl : r = (0, 160) := by rw [← hR]; simp
        go_wp2_with fail
        have hE := HE.out (.cells #[.int .u64 x0, .int .u64 x1, .int .u64 x2, .int .u64 x3] 24)
        refine bodyPost_ret (results_word1 rfl _ _ w.heap.size 0 rfl hE.1) rfl ?_
        exact ⟨rfl, hE.2⟩
      | true =>
        cases t with
        | nil =>
          obtain rfl : r = (0, 160) := by rw [← hR]; simp
          go_wp2_with fail
          have hE := HE.out (.cells #[.int .u64 x0, .int .u64 x1, .int .u64 x2, .int .u64 x3] 24)
          refine bodyPost_ret (results_word1 rfl _ _ w.heap.size 0 rfl hE.1) rfl ?_
          exact ⟨rfl, hE.2⟩
        | cons c' r' =>
          obtain rfl : r = (v, 0) := by rw [← hR]; simp
          go_wp2_with fail
          have hG := HG.out (.cells #[.int .u64 x0, .int .u64 x1, .int .u64 x2, .int .u64 x3] 24)
          refine bodyPost_ret (results_word1 rfl _ _ w.heap.size v rfl hG.1) rfl ?_
          exact ⟨by rw [hw]; rfl, hG.2⟩
end Go.Proofs.YtmjblnhnadffmaaDoor
/- ReceiptBytes of a receipt without logs, and shown. -/
namespace Go.Proofs.YtmjblnhnadffmaaDoor
open Go.RowKit Go.Shelf Go.Lib

def receiptItem0 : Item := .mk true [] [.mk false [1] [], .mk false [82, 8] [], .mk true [] []]
theorem receipt0_encode : encodeV receiptItem0 = .tuple #[.string ⟨#[197, 1, 130, 82, 8, 192]⟩, .int .i64 0] := by kernel_rfl
theorem receipt0_size : receiptItem0.size = 4 := by kernel_rfl
theorem receipt0_put : (put receiptItem0).length = 6 := by kernel_rfl
theorem number_lit (n : Nat) {l : List UInt8} (h : num n = l) (hn : n < 18446744073709551616) (w : World) : Calls Tryd.prog 36 #[.int .u64 n] w fun e w' => e = .returned (.string ⟨l.toArray⟩) ∧ Below w.heap.size w w' := by
  rw [← h]; exact number_any n w hn

theorem number21000 (w : World) : Calls Tryd.prog 36 #[.int .u64 21000] w fun e w' => e = .returned (.string ⟨#[82, 8]⟩) ∧ Below w.heap.size w w' := number_lit 21000 (l := [82, 8]) (by decide) (by decide) w

set_option maxRecDepth 100000 in
set_option maxHeartbeats 3200000 in
theorem receiptBytes0 (w : World) : Calls Tryd.prog 14 #[.agg #[.bool true, .int .u64 21000, .slice none 0 0]] w fun e w' => e = .returned (.tuple #[.string ⟨#[197, 1, 130, 82, 8, 192]⟩, .int .i64 0]) ∧ Below w.heap.size w w' := by
  have HN := Lib.hid number21000
  go_enter Tryd.func14, Tryd.ntmps14
  go_wp2
  go_loopw [4, 14] (fun v i wr => v = .slice none 0 0 ∧ i = .int .i64 0 ∧ wr = w.alloc (.cells #[.bool true, .int .u64 21000, .slice none 0 0] 38)) (fun _ _ _ => 0)
  case atStart => exact ⟨rfl, rfl, rfl⟩
  case round =>
    obtain ⟨rfl, rfl, rfl⟩ := hrel
    go_wp2_with fail
    refine (text_any _ _).mono ?_
    rintro e w1 ⟨rfl, hb1⟩
    have hz1 := hb1.size
    simp at hz1
    have c0 : w1.cell? ⟨w.heap.size, 0, none⟩ = some (.bool true) := (hb1.cell (p := ⟨w.heap.size, 0, none⟩) (by simp)).trans (by simp)
    have c1 : w1.cell? ⟨w.heap.size, 1, none⟩ = some (.int .u64 21000) := (hb1.cell (p := ⟨w.heap.size, 1, none⟩) (by simp)).trans (by simp)
    have hl0 : w.heap.size < w1.heap.size := by omega
    have HB1 := Lib.hid ((laid1 w _).trans (hb1.mono (by simp)))
    clear hb1
    go_wp2_with fail
    refine (text_any _ _).mono ?_
    rintro e w2 ⟨rfl, hb2⟩
    have hz2 := hb2.size
    simp at hz2
    have hX : Box3 w2 w1.heap.size (.bool false) (.string ⟨#[]⟩) (.slice none 0 0) := (Box3.new w1 _ _ _ _).kept (hb2.block _ (by simp))
    have c1' : w2.cell? ⟨w.heap.size, 1, none⟩ = some (.int .u64 21000) := (hb2.cell (p := ⟨w.heap.size, 1, none⟩) (by simp; omega)).trans ((World.cell?_alloc_past _ _ _ hl0).trans c1)
    have HX := Lib.hid hX
    obtain ⟨q0, q1, q2, q3⟩ := hX
    have HB2 := Lib.hid ((HB1.out.alloc HB1.out.size _).trans (hb2.mono (by simp; omega)))
    clear hb2 c0 c1
    go_wp2_with fail
    obtain ⟨w3, hw3⟩ : ∃ w3, (((w2.setCell ⟨w1.heap.size, 0, none⟩ (.bool false)).setCell ⟨w1.heap.size, 1, none⟩ (.string ⟨#[1]⟩)).setCell ⟨w1.heap.size, 2, none⟩ (.slice none 0 0)) = w3 := ⟨_, rfl⟩
    have hX3 : Box3 w3 w1.heap.size (.bool false) (.string ⟨#[1]⟩) (.slice none 0 0) := by rw [← hw3]; exact HX.out.set3 _ _ _
    have hc3 : w3.cell? ⟨w.heap.size, 1, none⟩ = some (.int .u64 21000) := by
      have ne : ∀ i, (⟨w1.heap.size, i, none⟩ : Addr) ≠ ⟨w.heap.size, 1, none⟩ := fun i e => by simp at e <;> omega
      rw [← hw3]
      exact (World.cell?_setCell_other _ _ _ _ (ne 2)).trans ((World.cell?_setCell_other _ _ _ _ (ne 1)).trans ((World.cell?_setCell_other _ _ _ _ (ne 0)).trans c1'))
    have hB3 : Below w.heap.size w w3 := by
      rw [← hw3]
      exact ((HB2.out.setCell (p := ⟨w1.heap.size, 0, none⟩) (show w.heap.size ≤ w1.heap.size by omega) _).setCell (p := ⟨w1.heap.size, 1, none⟩) (show w.heap.size ≤ w1.heap.size by omega) _).setCell (p := ⟨w1.heap.size, 2, none⟩) (show w.heap.size ≤ w1.heap.size by omega) _
    have HB3 := Lib.hid hB3
    rw [hw3]
    obtain ⟨g1, hg1⟩ : ∃ g1, w1.heap.size = g1 := ⟨_, rfl⟩
    rw [hg1] at hX3 ⊢
    have hlw : w.heap.size < w3.heap.size := World.block_lt_of_cell? w3 _ hc3
    have HS := Lib.hid (fun W' (hb : Below w3.heap.size w3 W') => (show W'.cell? ⟨g1, 0, none⟩ = some (.bool false) ∧ W'.cell? ⟨g1, 1, none⟩ = some (.string ⟨#[1]⟩) ∧ W'.cell? ⟨g1, 2, none⟩ = some (.slice none 0 0) ∧ W'.cell? ⟨w.heap.size, 1, none⟩ = some (.int .u64 21000) from
      ⟨(hb.cell (p := ⟨g1, 0, none⟩) hX3.lt).trans hX3.1, (hb.cell (p := ⟨g1, 1, none⟩) hX3.lt).trans hX3.2.1, (hb.cell (p := ⟨g1, 2, none⟩) hX3.lt).trans hX3.2.2.1, (hb.cell (p := ⟨w.heap.size, 1, none⟩) hlw).trans hc3⟩))
    clear hw3 c1' q0 q1 q2 q3 hX3 hc3 hB3 HX HB1 HB2 hg1 hz1 hz2 hl0
    have b3 : Below w3.heap.size w3 w3.drew := (Below.refl _ _).drew
    refine wp_region_held_drew (S := (fun w' => w'.cell? ⟨g1, 0, none⟩ = some (.bool false) ∧ w'.cell? ⟨g1, 1, none⟩ = some (.string ⟨#[1]⟩) ∧ w'.cell? ⟨g1, 2, none⟩ = some (.slice none 0 0) ∧ w'.cell? ⟨w.heap.size, 1, none⟩ = some (.int .u64 21000))) (by kernel_rfl) (HS.out _ (Below.refl _ _).drew) (fun hHeld => ?_)
    refine wpAnyH_take (i := 0) (v := .agg #[.bool false, .string ⟨#[1]⟩, .slice none 0 0]) rfl (by kernel_rfl) (by kernel_rfl) (by kernel_rfl) (fun _ _ _ h => h) (.inl ⟨by rfl, ?_⟩) (by assumption) ?_
    · intro w0 hSw
      obtain ⟨z0, z1, z2, z3⟩ := hSw
      go_simp
    simp only [Act.put, List.getElem_toArray, List.getElem_cons_zero, List.setIfInBounds_toArray, List.set_cons_zero, List.set_cons_succ]
    refine wpAnyH_take (i := 1) (v := .pointer (some ⟨w.heap.size, 1, none⟩)) rfl (by kernel_rfl) (by kernel_rfl) (by kernel_rfl) (fun _ _ _ h => h) (.inl ⟨by rfl, ?_⟩) (by assumption) ?_
    · intro w0 hSw
      go_simp
    simp only [Act.put, List.getElem_toArray, List.getElem_cons_zero, List.getElem_cons_succ, List.setIfInBounds_toArray, List.set_cons_zero, List.set_cons_succ]
    refine wpAnyH_take (i := 2) (v := .int .u64 21000) rfl (by kernel_rfl) (by kernel_rfl) (by kernel_rfl) (fun _ _ _ h => h) (.inl ⟨by rfl, ?_⟩) (by assumption) ?_
    · intro w0 hSw
      obtain ⟨z0, z1, z2, z3⟩ := hSw
      go_simp
    simp only [Act.put, List.getElem_toArray, List.getElem_cons_zero, List.getElem_cons_succ, List.setIfInBounds_toArray, List.set_cons_zero, List.set_cons_succ]
    refine wpAnyH_take (i := 5) (v := .slice none 0 0) rfl (by kernel_rfl) (by kernel_rfl) (by kernel_rfl) (fun _ _ _ h => h) (.inl ⟨by rfl, ?_⟩) (by assumption) ?_
    · intro w0 hSw
      go_simp
    simp only [Act.put, List.getElem_toArray, List.getElem_cons_zero, List.getElem_cons_succ, List.setIfInBounds_toArray, List.set_cons_zero, List.set_cons_succ]
    refine wpAnyH_ready (rs := [3]) (by kernel_rfl) (by simp) ?_
    refine AllReadyH.cons rfl (fun K hK => ?_) AllReadyH.nil
    go_simp
    go_at_call 36
    refine (HN.out _).mono ?_
    rintro e w4 ⟨rfl, hb4⟩
    have b4 := b3.trans (hb4.mono b3.size)
    refine hK.out _ _ (HS.out _ b4) (fun hHeld => ?_)
    clear hK K
    try simp only [Act.put, List.getElem_toArray, List.getElem_cons_zero, List.getElem_cons_succ, List.setIfInBounds_toArray, List.set_cons_zero, List.set_cons_succ]
    refine wpAnyH_ready (rs := [4]) (by kernel_rfl) (by simp) ?_
    refine AllReadyH.cons rfl (fun K hK => ?_) AllReadyH.nil
    go_simp
    go_at_call 30
    refine (text_any _ _).mono ?_
    rintro e w5 ⟨rfl, hb5⟩
    have b5 := b4.trans (hb5.mono b4.size)
    refine hK.out _ _ (HS.out _ b5) (fun hHeld => ?_)
    clear hK K
    try simp only [Act.put, List.getElem_toArray, List.getElem_cons_zero, List.getElem_cons_succ, List.setIfInBounds_toArray, List.set_cons_zero, List.set_cons_succ]
    refine wpAnyH_ready (rs := [6]) (by kernel_rfl) (by simp) ?_
    refine AllReadyH.cons rfl (fun K hK => ?_) AllReadyH.nil
    go_simp
    go_at_call 35
    refine (list_any _ _ _ _).mono ?_
    rintro e w6 ⟨rfl, hb6⟩
    have b6 := b5.trans (hb6.mono b5.size)
    refine hK.out _ _ (HS.out _ b6) (fun hHeld => ?_)
    clear hK K
    try simp only [Act.put, List.getElem_toArray, List.getElem_cons_zero, List.getElem_cons_succ, List.setIfInBounds_toArray, List.set_cons_zero, List.set_cons_succ]
    refine wpAnyH_ready (rs := [7]) (by kernel_rfl) (by simp) ?_
    refine AllReadyH.cons rfl (fun K hK => ?_) AllReadyH.nil
    go_simp
    have b7 := b6.alloc b6.size (.cells #[.bool false, .string ⟨#[1]⟩, .slice none 0 0, .bool false, .string ⟨#[82, 8]⟩, .slice none 0 0, .bool true, .string ⟨#[]⟩, .slice none 0 0] 51)
    refine hK.out _ _ (HS.out _ b7) (fun hHeld => ?_)
    clear hK K
    try simp only [Act.put, List.getElem_toArray, List.getElem_cons_zero, List.getElem_cons_succ, List.setIfInBounds_toArray, List.set_cons_zero, List.set_cons_succ]
    refine wpAnyH_ready (rs := [8]) (by kernel_rfl) (by simp) ?_
    refine AllReadyH.cons rfl (fun K hK => ?_) AllReadyH.nil
    go_simp
    go_at_call 35
    refine (list_any _ _ _ _).mono ?_
    rintro e w8 ⟨rfl, hb8⟩
    have b8 := b7.trans (hb8.mono b7.size)
    refine hK.out _ _ (HS.out _ b8) (fun hHeld => ?_)
    clear hK K
    try simp only [Act.put, List.getElem_toArray, List.getElem_cons_zero, List.getElem_cons_succ, List.setIfInBounds_toArray, List.set_cons_zero, List.set_cons_succ]
    have hrd : Reads w8 w8.heap.size (.slice (some ⟨w6.heap.size, 0, none⟩) 3 3) receiptItem0.list := by
      have h0 := fun j u hu => (hb8.cell (p := ⟨w6.heap.size, j, none⟩) (by simp)).trans (cells_at w6 [.bool false, .string ⟨#[1]⟩, .slice none 0 0, .bool false, .string ⟨#[82, 8]⟩, .slice none 0 0, .bool true, .string ⟨#[]⟩, .slice none 0 0] 51 j u hu)
      refine Reads.mk (xs := receiptItem0.list) (cap := 3) (by have := hb8.size; simp at this; omega) (fun i x hx => ?_)
      match i, hx with
      | 0, hx => cases hx; exact ⟨h0 0 _ rfl, h0 1 _ rfl, _, h0 2 _ rfl, Reads.nil _ _⟩
      | 1, hx => cases hx; exact ⟨h0 3 _ rfl, h0 4 _ rfl, _, h0 5 _ rfl, Reads.nil _ _⟩
      | 2, hx => cases hx; exact ⟨h0 6 _ rfl, h0 7 _ rfl, _, h0 8 _ rfl, Reads.nil _ _⟩
    have hE := Lib.hid (encode_any receiptItem0 _ _ (by rw [receipt0_size]; omega) (by rw [receipt0_put]; omega) hrd)
    rw [receipt0_encode] at hE
    clear hrd
    refine wpAnyH_ready (rs := [9]) (by kernel_rfl) (by simp) ?_
    refine AllReadyH.cons rfl (fun K hK => ?_) AllReadyH.nil
    go_simp
    go_at_call 29
    refine (hE.out).mono ?_
    rintro e w9 ⟨rfl, hb9⟩
    have b9 := b8.trans (hb9.mono b8.size)
    refine hK.out _ _ (HS.out _ b9) (fun hHeld => ?_)
    clear hK K
    try simp only [Act.put, List.getElem_toArray, List.getElem_cons_zero, List.getElem_cons_succ, List.setIfInBounds_toArray, List.set_cons_zero, List.set_cons_succ]
    refine wpAnyH_take (i := 10) (v := .string ⟨#[197, 1, 130, 82, 8, 192]⟩) rfl (by kernel_rfl) (by kernel_rfl) (by kernel_rfl) (fun _ _ _ h => h) (.inl ⟨by rfl, ?_⟩) (by assumption) ?_
    · intro w0 hSw
      go_simp
    simp only [Act.put, List.getElem_toArray, List.getElem_cons_zero, List.getElem_cons_succ, List.setIfInBounds_toArray, List.set_cons_zero, List.set_cons_succ]
    refine wpAnyH_take (i := 11) (v := .int .i64 0) rfl (by kernel_rfl) (by kernel_rfl) (by kernel_rfl) (fun _ _ _ h => h) (.inl ⟨by rfl, ?_⟩) (by assumption) ?_
    · intro w0 hSw
      go_simp
    simp only [Act.put, List.getElem_toArray, List.getElem_cons_zero, List.getElem_cons_succ, List.setIfInBounds_toArray, List.set_cons_zero, List.set_cons_succ]
    refine wpAnyH_take (i := 12) (v := .string ⟨#[197, 1, 130, 82, 8, 192]⟩) rfl (by kernel_rfl) (by kernel_rfl) (by kernel_rfl) (fun _ _ _ h => h) (.inl ⟨by rfl, ?_⟩) (by assumption) ?_
    · intro w0 hSw
      go_simp
    simp only [Act.put, List.getElem_toArray, List.getElem_cons_zero, List.getElem_cons_succ, List.setIfInBounds_toArray, List.set_cons_zero, List.set_cons_succ]
    refine wpAnyH_take (i := 13) (v := .int .i64 0) rfl (by kernel_rfl) (by kernel_rfl) (by kernel_rfl) (fun _ _ _ h => h) (.inl ⟨by rfl, ?_⟩) (by assumption) ?_
    · intro w0 hSw
      go_simp
    simp only [Act.put, List.getElem_toArray, List.getElem_cons_zero, List.getElem_cons_succ, List.setIfInBounds_toArray, List.set_cons_zero, List.set_cons_succ]
    refine wpAnyH_done (by kernel_rfl) ?_ 0
    go_wp2
    go_ret2
    exact ⟨rfl, HB3.out.trans (b9.mono HB3.out.size)⟩

set_option maxRecDepth 100000 in
set_option maxHeartbeats 1600000 in
theorem shown16_any (w : World) : Calls Tryd.prog 8 #[] w fun e w' => e = .returned (.bool true) ∧ Below w.heap.size w w' := by
  have H2 : ∀ W, Calls Tryd.prog 11 #[.agg #[.int .u64 255, .int .u64 0, .int .u64 0, .int .u64 0]] W fun e w' => e = .returned (.string ⟨#[129, 255]⟩) ∧ Below W.heap.size W w' := by
    intro W
    have := slot_any 255 W
    rw [show slotL 255 = [129, 255] by kernel_rfl] at this
    exact this
  go_enter Tryd.func8, Tryd.ntmps8
  go_wp2_with fail
  refine (receiptBytes0 _).mono ?_
  rintro e w1 ⟨rfl, hb1⟩
  go_wp2_with fail
  refine (H2 _).mono ?_
  rintro e w2 ⟨rfl, hb2⟩
  go_wp2
  go_ret
  exact ⟨rfl, hb1.trans (hb2.mono hb1.size)⟩
end Go.Proofs.YtmjblnhnadffmaaDoor

/- Contract of acct.Bytes. -/
namespace Go.Proofs.YtmjblnhnadffmaaDoor
open Go.RowKit Go.Shelf Go.Lib

/-- an account's item -/
def acctItem (n b : Nat) (root code : List UInt8) : Item := .mk true [] [.mk false (num n) [], .mk false (shortW b) [], .mk false root [], .mk false code []]
/-- an account's bytes -/
def acctBytes (n b : Nat) (root code : List UInt8) : List UInt8 × Int := if root.length ≠ 32 ∨ code.length ≠ 32 then ([], 160) else (put (acctItem n b root code), 0)
theorem putText_len (t : List UInt8) (h : t.length < 56) : 1 ≤ (putText t).length ∧ (putText t).length ≤ t.length + 1 := by
  unfold putText
  split
  · rename_i h1; omega
  · unfold framed; rw [if_pos h]; simp
theorem putText_32 (t : List UInt8) (h : t.length = 32) : (putText t).length = 33 := by
  unfold putText
  rw [if_neg (by omega)]
  unfold framed; rw [if_pos (by omega)]; simp [h]
theorem put_lst (L : List Item) : put (.mk true [] L) = framed (putAll L) 192 := put_list (by rfl)
theorem put_txt (t : List UInt8) : put (.mk false t []) = putText t := put_text (by rfl)
theorem framed_mid {l : List UInt8} (h1 : 56 ≤ l.length) (h2 : l.length < 256) (b : Nat) : (framed l b).length = l.length + 2 := by
  have h3 : (num l.length).length = 1 := by
    rw [← be_num (n := l.length) (k := 1) (by omega) (by rw [Nat.pow_one]; omega) (.inr (by rw [Nat.sub_self, Nat.pow_zero, Nat.div_one]; omega)), be_length]
  unfold framed
  rw [if_neg (by omega), List.length_cons, List.length_append, h3]
  omega
theorem acct_put (n b : Nat) {root code : List UInt8} (hr : root.length = 32) (hc : code.length = 32) : 66 < (put (acctItem n b root code)).length ∧ (put (acctItem n b root code)).length ≤ 112 := by
  have e : put (acctItem n b root code) = framed (putText (num n) ++ (putText (shortW b) ++ (putText root ++ (putText code ++ [])))) 192 := by
    unfold acctItem
    rw [put_lst]
    simp only [putAll, put_txt]
  have h1 := putText_len (num n) (by have := num_length n; omega)
  have h2 := putText_len (shortW b) (by have := shortW_length b; omega)
  have h3 := putText_32 root hr
  have h4 := putText_32 code hc
  have h5 := num_length n
  have h6 := shortW_length b
  rw [e]
  clear e
  generalize putText (num n) = A at *
  generalize putText (shortW b) = B at *
  generalize putText root = C at *
  generalize putText code = D at *
  have hl : (A ++ (B ++ (C ++ (D ++ [])))).length = A.length + B.length + 66 := by
    simp only [List.length_append, List.length_nil]; omega
  rw [framed_mid (by omega) (by omega), hl]
  omega
theorem acct_encode (n b : Nat) {root code : List UInt8} (hr : root.length = 32) (hc : code.length = 32) : encode (acctItem n b root code) = (put (acctItem n b root code), 0) :=
  encode_good (by rfl) (by rfl) (by have := acct_put n b hr hc; omega)
theorem acct_size (n b : Nat) (root code : List UInt8) : (acctItem n b root code).size = 5 := rfl

set_option maxRecDepth 100000 in
/-- Encode of a list of four texts that was just laid -/
theorem encode4 {wk wl : World} {nl sl : List UInt8} {root code : ByteArray} {pl : List UInt8}
    (hb : Below (wk.alloc (.cells #[.bool false, .string ⟨nl.toArray⟩, .slice none 0 0, .bool false, .string ⟨sl.toArray⟩, .slice none 0 0, .bool false, .string root, .slice none 0 0, .bool false, .string code, .slice none 0 0] 51)).heap.size (wk.alloc (.cells #[.bool false, .string ⟨nl.toArray⟩, .slice none 0 0, .bool false, .string ⟨sl.toArray⟩, .slice none 0 0, .bool false, .string root, .slice none 0 0, .bool false, .string code, .slice none 0 0] 51)) wl)
    (he : encode (.mk true [] [.mk false nl [], .mk false sl [], .mk false root.data.toList [], .mk false code.data.toList []]) = (pl, 0))
    (hp : (put (.mk true [] [.mk false nl [], .mk false sl [], .mk false root.data.toList [], .mk false code.data.toList []])).length ≤ 1099511627776) :
    Calls Tryd.prog 29 #[.agg #[.bool true, .string ⟨#[]⟩, .slice (some ⟨wk.heap.size, 0, none⟩) 4 4]] wl fun e w' => e = .returned (.tuple #[.string ⟨pl.toArray⟩, .int .i64 0]) ∧ Below wl.heap.size wl w' := by
  have h0 := fun j u hu => (hb.cell (p := ⟨wk.heap.size, j, none⟩) (by simp)).trans (cells_at wk [.bool false, .string ⟨nl.toArray⟩, .slice none 0 0, .bool false, .string ⟨sl.toArray⟩, .slice none 0 0, .bool false, .string root, .slice none 0 0, .bool false, .string code, .slice none 0 0] 51 j u hu)
  have hrd : Reads wl wl.heap.size (.slice (some ⟨wk.heap.size, 0, none⟩) 4 4) [.mk false nl [], .mk false sl [], .mk false root.data.toList [], .mk false code.data.toList []] := by
    refine Reads.mk (xs := [.mk false nl [], .mk false sl [], .mk false root.data.toList [], .mk false code.data.toList []]) (cap := 4) (hl := by simp) (by have := hb.size; simp at this; omega) (fun i x hx => ?_)
    match i, hx with
    | 0, hx => cases hx; exact ⟨h0 0 _ rfl, h0 1 _ rfl, _, h0 2 _ rfl, Reads.nil _ _⟩
    | 1, hx => cases hx; exact ⟨h0 3 _ rfl, h0 4 _ rfl, _, h0 5 _ rfl, Reads.nil _ _⟩
    | 2, hx => cases hx; exact ⟨h0 6 _ rfl, h0 7 _ rfl, _, h0 8 _ rfl, Reads.nil _ _⟩
    | 3, hx => cases hx; exact ⟨h0 9 _ rfl, h0 10 _ rfl, _, h0 11 _ rfl, Reads.nil _ _⟩
  have := encode_any (.mk true [] [.mk false nl [], .mk false sl [], .mk false root.data.toList [], .mk false code.data.toList []]) _ wl (by simp [Item.size, sizeAll]) hp hrd
  unfold encodeV at this
  rw [he] at this
  exact this

set_option maxRecDepth 100000 in
set_option maxHeartbeats 3200000 in
theorem acctBytes_any (n b : Nat) (root code : ByteArray) (w : World) (hn : n < 18446744073709551616) :
    Calls Tryd.prog 13 #[acctV n b root code] w fun e w' => e = .returned (.tuple #[.string ⟨(acctBytes n b root.data.toList code.data.toList).1.toArray⟩, .int .i64 (acctBytes n b root.data.toList code.data.toList).2]) ∧ Below w.heap.size w w' := by
  have hrl : root.data.toList.length = root.size := rfl
  have hcl : code.data.toList.length = code.size := rfl
  have HH := Lib.hid (fun W => short_any b W)
  have hd : ∃ x0 x1 x2 x3 : Nat, wordV b = .agg #[.int .u64 x0, .int .u64 x1, .int .u64 x2, .int .u64 x3] ∧ acctV n b root code = .agg #[.int .u64 n, .int .u64 x0, .int .u64 x1, .int .u64 x2, .int .u64 x3, .string root, .string code] :=
    ⟨limb b 0, limb b 1, limb b 2, limb b 3, rfl, rfl⟩
  obtain ⟨x0, x1, x2, x3, hw, ha⟩ := hd
  rw [hw] at HH
  rw [ha]
  by_cases hr : root.size = 32
  · by_cases hc : code.size = 32
    · have hE := acct_encode n b (root := root.data.toList) (code := code.data.toList) (by omega) (by omega)
      have hP := (acct_put n b (root := root.data.toList) (code := code.data.toList) (by omega) (by omega)).2
      have e1 : acctBytes n b root.data.toList code.data.toList = (put (acctItem n b root.data.toList code.data.toList), 0) := by unfold acctBytes; rw [if_neg (by omega)]
      rw [e1]
      unfold acctItem at hE hP ⊢
      obtain ⟨nl, hnl⟩ : ∃ l, num n = l := ⟨_, rfl⟩
      obtain ⟨sl, hsl⟩ : ∃ l, shortW b = l := ⟨_, rfl⟩
      have HN := Lib.hid (fun W => number_lit n hnl hn W)
      rw [hsl] at HH
      rw [hnl, hsl] at hE hP ⊢
      obtain ⟨pl, hpl⟩ : ∃ l, put (.mk true [] [.mk false nl [], .mk false sl [], .mk false root.data.toList [], .mk false code.data.toList []]) = l := ⟨_, rfl⟩
      rw [hpl] at hE ⊢
      have HE := Lib.hid (And.intro hE (show (put (.mk true [] [.mk false nl [], .mk false sl [], .mk false root.data.toList [], .mk false code.data.toList []])).length ≤ 1099511627776 by omega))
      have h1 : ((root.size : Int) != 32) = false := by rw [hr]; rfl
      have h2 : ((code.size : Int) != 32) = false := by rw [hc]; rfl
      clear hE hP e1 hnl hsl hpl hw ha hrl hcl hr hc hn
      go_enter Tryd.func13, Tryd.ntmps13
      go_wp2_with fail
      obtain ⟨w3, hw3⟩ : ∃ w3, w.alloc (.cells #[.int .u64 n, .int .u64 x0, .int .u64 x1, .int .u64 x2, .int .u64 x3, .string root, .string code] 32) = w3 := ⟨_, rfl⟩
      have HB3 := Lib.hid (laid1 w (.cells #[.int .u64 n, .int .u64 x0, .int .u64 x1, .int .u64 x2, .int .u64 x3, .string root, .string code] 32))
      have hc0 := cells_at w [.int .u64 n, .int .u64 x0, .int .u64 x1, .int .u64 x2, .int .u64 x3, .string root, .string code] 32
      have hk : w.heap.size < (w.alloc (.cells #[.int .u64 n, .int .u64 x0, .int .u64 x1, .int .u64 x2, .int .u64 x3, .string root, .string code] 32)).heap.size := by simp
      rw [hw3] at HB3 hc0 hk ⊢
      have HS := Lib.hid (fun W' (hb : Below w3.heap.size w3 W') => (show W'.cell? ⟨w.heap.size, 0, none⟩ = some (.int .u64 n) ∧ W'.cell? ⟨w.heap.size, 1, none⟩ = some (.int .u64 x0) ∧ W'.cell? ⟨w.heap.size, 2, none⟩ = some (.int .u64 x1) ∧ W'.cell? ⟨w.heap.size, 3, none⟩ = some (.int .u64 x2) ∧ W'.cell? ⟨w.heap.size, 4, none⟩ = some (.int .u64 x3) ∧ W'.cell? ⟨w.heap.size, 5, none⟩ = some (.string root) ∧ W'.cell? ⟨w.heap.size, 6, none⟩ = some (.string code) from
        ⟨(hb.cell (p := ⟨w.heap.size, 0, none⟩) hk).trans (hc0 0 _ rfl), (hb.cell (p := ⟨w.heap.size, 1, none⟩) hk).trans (hc0 1 _ rfl), (hb.cell (p := ⟨w.heap.size, 2, none⟩) hk).trans (hc0 2 _ rfl), (hb.cell (p := ⟨w.heap.size, 3, none⟩) hk).trans (hc0 3 _ rfl), (hb.cell (p := ⟨w.heap.size, 4, none⟩) hk).trans (hc0 4 _ rfl), (hb.cell (p := ⟨w.heap.size, 5, none⟩) hk).trans (hc0 5 _ rfl), (hb.cell (p := ⟨w.heap.size, 6, none⟩) hk).trans (hc0 6 _ rfl)⟩))
      clear hw3 hc0 hk
      have b3 : Below w3.heap.size w3 w3.drew := (Below.refl _ _).drew
      refine wp_region_held_drew (S := (fun w' => w'.cell? ⟨w.heap.size, 0, none⟩ = some (.int .u64 n) ∧ w'.cell? ⟨w.heap.size, 1, none⟩ = some (.int .u64 x0) ∧ w'.cell? ⟨w.heap.size, 2, none⟩ = some (.int .u64 x1) ∧ w'.cell? ⟨w.heap.size, 3, none⟩ = some (.int .u64 x2) ∧ w'.cell? ⟨w.heap.size, 4, none⟩ = some (.int .u64 x3) ∧ w'.cell? ⟨w.heap.size, 5, none⟩ = some (.string root) ∧ w'.cell? ⟨w.heap.size, 6, none⟩ = some (.string code))) (by kernel_rfl) (HS.out _ b3) (fun hHeld => ?_)
      refine wpAnyH_take (i := 0) (v := .pointer (some ⟨w.heap.size, 0, none⟩)) rfl (by kernel_rfl) (by kernel_rfl) (by kernel_rfl) (fun _ _ _ h => h) (.inl ⟨by rfl, ?_⟩) (by assumption) ?_
      · intro w0 hSw
        go_simp
      simp only [Act.put, List.getElem_toArray, List.getElem_cons_zero, List.setIfInBounds_toArray, List.set_cons_zero, List.set_cons_succ]
      refine wpAnyH_take (i := 1) (v := .int .u64 n) rfl (by kernel_rfl) (by kernel_rfl) (by kernel_rfl) (fun _ _ _ h => h) (.inl ⟨by rfl, ?_⟩) (by assumption) ?_
      · intro w0 hSw
        obtain ⟨z0, z1, z2, z3, z4, z5, z6⟩ := hSw
        go_simp
      simp only [Act.put, List.getElem_toArray, List.getElem_cons_zero, List.getElem_cons_succ, List.setIfInBounds_toArray, List.set_cons_zero, List.set_cons_succ]
      refine wpAnyH_take (i := 4) (v := .pointer (some ⟨w.heap.size, 1, none⟩)) rfl (by kernel_rfl) (by kernel_rfl) (by kernel_rfl) (fun _ _ _ h => h) (.inl ⟨by rfl, ?_⟩) (by assumption) ?_
      · intro w0 hSw
        go_simp
      simp only [Act.put, List.getElem_toArray, List.getElem_cons_zero, List.getElem_cons_succ, List.setIfInBounds_toArray, List.set_cons_zero, List.set_cons_succ]
      refine wpAnyH_take (i := 5) (v := .agg #[.int .u64 x0, .int .u64 x1, .int .u64 x2, .int .u64 x3]) rfl (by kernel_rfl) (by kernel_rfl) (by kernel_rfl) (fun _ _ _ h => h) (.inl ⟨by rfl, ?_⟩) (by assumption) ?_
      · intro w0 hSw
        obtain ⟨z0, z1, z2, z3, z4, z5, z6⟩ := hSw
        go_simp
      simp only [Act.put, List.getElem_toArray, List.getElem_cons_zero, List.getElem_cons_succ, List.setIfInBounds_toArray, List.set_cons_zero, List.set_cons_succ]
      refine wpAnyH_take (i := 8) (v := .pointer (some ⟨w.heap.size, 5, none⟩)) rfl (by kernel_rfl) (by kernel_rfl) (by kernel_rfl) (fun _ _ _ h => h) (.inl ⟨by rfl, ?_⟩) (by assumption) ?_
      · intro w0 hSw
        go_simp
      simp only [Act.put, List.getElem_toArray, List.getElem_cons_zero, List.getElem_cons_succ, List.setIfInBounds_toArray, List.set_cons_zero, List.set_cons_succ]
      refine wpAnyH_take (i := 9) (v := .string root) rfl (by kernel_rfl) (by kernel_rfl) (by kernel_rfl) (fun _ _ _ h => h) (.inl ⟨by rfl, ?_⟩) (by assumption) ?_
      · intro w0 hSw
        obtain ⟨z0, z1, z2, z3, z4, z5, z6⟩ := hSw
        go_simp
      simp only [Act.put, List.getElem_toArray, List.getElem_cons_zero, List.getElem_cons_succ, List.setIfInBounds_toArray, List.set_cons_zero, List.set_cons_succ]
      refine wpAnyH_take (i := 11) (v := .pointer (some ⟨w.heap.size, 6, none⟩)) rfl (by kernel_rfl) (by kernel_rfl) (by kernel_rfl) (fun _ _ _ h => h) (.inl ⟨by rfl, ?_⟩) (by assumption) ?_
      · intro w0 hSw
        go_simp
      simp only [Act.put, List.getElem_toArray, List.getElem_cons_zero, List.getElem_cons_succ, List.setIfInBounds_toArray, List.set_cons_zero, List.set_cons_succ]
      refine wpAnyH_take (i := 12) (v := .string code) rfl (by kernel_rfl) (by kernel_rfl) (by kernel_rfl) (fun _ _ _ h => h) (.inl ⟨by rfl, ?_⟩) (by assumption) ?_
      · intro w0 hSw
        obtain ⟨z0, z1, z2, z3, z4, z5, z6⟩ := hSw
        go_simp
      simp only [Act.put, List.getElem_toArray, List.getElem_cons_zero, List.getElem_cons_succ, List.setIfInBounds_toArray, List.set_cons_zero, List.set_cons_succ]
      refine wpAnyH_ready (rs := [2]) (by kernel_rfl) (by simp) ?_
      refine AllReadyH.cons rfl (fun K hK => ?_) AllReadyH.nil
      go_simp
      go_at_call 36
      refine (HN.out _).mono ?_
      rintro e w4 ⟨rfl, hb4⟩
      have b4 := b3.trans (hb4.mono b3.size)
      refine hK.out _ _ (HS.out _ b4) (fun hHeld => ?_)
      clear hK K
      try simp only [Act.put, List.getElem_toArray, List.getElem_cons_zero, List.getElem_cons_succ, List.setIfInBounds_toArray, List.set_cons_zero, List.set_cons_succ]
      refine wpAnyH_ready (rs := [3]) (by kernel_rfl) (by simp) ?_
      refine AllReadyH.cons rfl (fun K hK => ?_) AllReadyH.nil
      go_simp
      go_at_call 30
      refine (text_any _ _).mono ?_
      rintro e w5 ⟨rfl, hb5⟩
      have b5 := b4.trans (hb5.mono b4.size)
      refine hK.out _ _ (HS.out _ b5) (fun hHeld => ?_)
      clear hK K
      try simp only [Act.put, List.getElem_toArray, List.getElem_cons_zero, List.getElem_cons_succ, List.setIfInBounds_toArray, List.set_cons_zero, List.set_cons_succ]
      refine wpAnyH_ready (rs := [6]) (by kernel_rfl) (by simp) ?_
      refine AllReadyH.cons rfl (fun K hK => ?_) AllReadyH.nil
      go_simp
      go_at_call 31
      refine (HH.out _).mono ?_
      rintro e w6 ⟨rfl, hb6⟩
      have b6 := b5.trans (hb6.mono b5.size)
      refine hK.out _ _ (HS.out _ b6) (fun hHeld => ?_)
      clear hK K
      try simp only [Act.put, List.getElem_toArray, List.getElem_cons_zero, List.getElem_cons_succ, List.setIfInBounds_toArray, List.set_cons_zero, List.set_cons_succ]
      refine wpAnyH_ready (rs := [7]) (by kernel_rfl) (by simp) ?_
      refine AllReadyH.cons rfl (fun K hK => ?_) AllReadyH.nil
      go_simp
      go_at_call 30
      refine (text_any _ _).mono ?_
      rintro e w7 ⟨rfl, hb7⟩
      have b7 := b6.trans (hb7.mono b6.size)
      refine hK.out _ _ (HS.out _ b7) (fun hHeld => ?_)
      clear hK K
      try simp only [Act.put, List.getElem_toArray, List.getElem_cons_zero, List.getElem_cons_succ, List.setIfInBounds_toArray, List.set_cons_zero, List.set_cons_succ]
      refine wpAnyH_ready (rs := [10]) (by kernel_rfl) (by simp) ?_
      refine AllReadyH.cons rfl (fun K hK => ?_) AllReadyH.nil
      go_simp
      go_at_call 30
      refine (text_any _ _).mono ?_
      rintro e w8 ⟨rfl, hb8⟩
      have b8 := b7.trans (hb8.mono b7.size)
      refine hK.out _ _ (HS.out _ b8) (fun hHeld => ?_)
      clear hK K
      try simp only [Act.put, List.getElem_toArray, List.getElem_cons_zero, List.getElem_cons_succ, List.setIfInBounds_toArray, List.set_cons_zero, List.set_cons_succ]
      refine wpAnyH_ready (rs := [13]) (by kernel_rfl) (by simp) ?_
      refine AllReadyH.cons rfl (fun K hK => ?_) AllReadyH.nil
      go_simp
      go_at_call 30
      refine (text_any _ _).mono ?_
      rintro e w9 ⟨rfl, hb9⟩
      have b9 := b8.trans (hb9.mono b8.size)
      refine hK.out _ _ (HS.out _ b9) (fun hHeld => ?_)
      clear hK K
      try simp only [Act.put, List.getElem_toArray, List.getElem_cons_zero, List.getElem_cons_succ, List.setIfInBounds_toArray, List.set_cons_zero, List.set_cons_succ]
      refine wpAnyH_ready (rs := [14]) (by kernel_rfl) (by simp) ?_
      refine AllReadyH.cons rfl (fun K hK => ?_) AllReadyH.nil
      go_simp
      have b10 := b9.alloc b9.size (.cells #[.bool false, .string ⟨nl.toArray⟩, .slice none 0 0, .bool false, .string ⟨sl.toArray⟩, .slice none 0 0, .bool false, .string root, .slice none 0 0, .bool false, .string code, .slice none 0 0] 51)
      refine hK.out _ _ (HS.out _ b10) (fun hHeld => ?_)
      clear hK K
      try simp only [Act.put, List.getElem_toArray, List.getElem_cons_zero, List.getElem_cons_succ, List.setIfInBounds_toArray, List.set_cons_zero, List.set_cons_succ]
      refine wpAnyH_ready (rs := [15]) (by kernel_rfl) (by simp) ?_
      refine AllReadyH.cons rfl (fun K hK => ?_) AllReadyH.nil
      go_simp
      go_at_call 35
      refine (list_any _ _ _ _).mono ?_
      rintro e w11 ⟨rfl, hb11⟩
      have b11 := b10.trans (hb11.mono b10.size)
      refine hK.out _ _ (HS.out _ b11) (fun hHeld => ?_)
      clear hK K
      try simp only [Act.put, List.getElem_toArray, List.getElem_cons_zero, List.getElem_cons_succ, List.setIfInBounds_toArray, List.set_cons_zero, List.set_cons_succ]
      have hE := Lib.hid (encode4 hb11 HE.out.1 HE.out.2)
      clear hb11
      refine wpAnyH_ready (rs := [16]) (by kernel_rfl) (by simp) ?_
      refine AllReadyH.cons rfl (fun K hK => ?_) AllReadyH.nil
      go_simp
      go_at_call 29
      refine (hE.out).mono ?_
      rintro e w12 ⟨rfl, hb12⟩
      have b12 := b11.trans (hb12.mono b11.size)
      refine hK.out _ _ (HS.out _ b12) (fun hHeld => ?_)
      clear hK K
      try simp only [Act.put, List.getElem_toArray, List.getElem_cons_zero, List.getElem_cons_succ, List.setIfInBounds_toArray, List.set_cons_zero, List.set_cons_succ]
      refine wpAnyH_take (i := 17) (v := .string ⟨pl.toArray⟩) rfl (by kernel_rfl) (by kernel_rfl) (by kernel_rfl) (fun _ _ _ h => h) (.inl ⟨by rfl, ?_⟩) (by assumption) ?_
      · intro w0 hSw
        go_simp
      simp only [Act.put, List.getElem_toArray, List.getElem_cons_zero, List.getElem_cons_succ, List.setIfInBounds_toArray, List.set_cons_zero, List.set_cons_succ]
      refine wpAnyH_take (i := 18) (v := .int .i64 0) rfl (by kernel_rfl) (by kernel_rfl) (by kernel_rfl) (fun _ _ _ h => h) (.inl ⟨by rfl, ?_⟩) (by assumption) ?_
      · intro w0 hSw
        go_simp
      simp only [Act.put, List.getElem_toArray, List.getElem_cons_zero, List.getElem_cons_succ, List.setIfInBounds_toArray, List.set_cons_zero, List.set_cons_succ]
      refine wpAnyH_take (i := 19) (v := .string ⟨pl.toArray⟩) rfl (by kernel_rfl) (by kernel_rfl) (by kernel_rfl) (fun _ _ _ h => h) (.inl ⟨by rfl, ?_⟩) (by assumption) ?_
      · intro w0 hSw
        go_simp
      simp only [Act.put, List.getElem_toArray, List.getElem_cons_zero, List.getElem_cons_succ, List.setIfInBounds_toArray, List.set_cons_zero, List.set_cons_succ]
      refine wpAnyH_take (i := 20) (v := .int .i64 0) rfl (by kernel_rfl) (by kernel_rfl) (by kernel_rfl) (fun _ _ _ h => h) (.inl ⟨by rfl, ?_⟩) (by assumption) ?_
      · intro w0 hSw
        go_simp
      simp only [Act.put, List.getElem_toArray, List.getElem_cons_zero, List.getElem_cons_succ, List.setIfInBounds_toArray, List.set_cons_zero, List.set_cons_succ]
      refine wpAnyH_done (by kernel_rfl) ?_ 0
      go_wp2
      go_ret2
      exact ⟨rfl, HB3.out.trans (b12.mono HB3.out.size)⟩
    · have e1 : acctBytes n b root.data.toList code.data.toList = ([], 160) := by unfold acctBytes; rw [if_pos (.inr (by omega))]
      rw [e1]
      have h1 : ((root.size : Int) != 32) = false := by rw [hr]; rfl
      have h2 : ((code.size : Int) != 32) = true := by rw [bne_iff_ne]; omega
      clear hw ha hrl hcl hr hc hn e1
      go_enter Tryd.func13, Tryd.ntmps13
      go_wp2
      go_ret2
      exact ⟨rfl, laid1 w _⟩
  · have e1 : acctBytes n b root.data.toList code.data.toList = ([], 160) := by unfold acctBytes; rw [if_pos (.inl (by omega))]
    rw [e1]
    have h1 : ((root.size : Int) != 32) = true := by rw [bne_iff_ne]; omega
    clear hw ha hrl hcl hr hn e1
    go_enter Tryd.func13, Tryd.ntmps13
    go_wp2
    go_ret2
    exact ⟨rfl, laid1 w _⟩
end Go.Proofs.YtmjblnhnadffmaaDoor
