/- Contracts of the reference's short, wordOf, Slot and SlotFrom. -/
import Derived.Test.YtmjblnhnadffmaaDoorWrdC
import Derived.Test.YtmjblnhnadffmaaDoorWrdD
import Derived.Test.YtmjblnhnadffmaaDoorAccB
namespace Go.Proofs.YtmjblnhnadffmaaDoor
open Go.RowKit Go.Shelf Go.Lib

set_option maxRecDepth 100000 in
theorem textRef_any (s : ByteArray) (w : World) : Calls Tryd.prog 33 #[.string s] w fun e w' => e = .returned (.agg #[.bool false, .string s, .slice none 0 0]) ∧ Below w.heap.size w w' := by
  go_enter Tryd.func33, Tryd.ntmps33
  go_wp2
  refine bodyPost_ret (results_item0 rfl _ _ w.heap.size (.bool false) (.string s) (.slice none 0 0) rfl ?_ ?_ ?_) rfl ?_
  · simp [go_sem]
  · simp [go_sem]
  · simp [go_sem]
  exact ⟨rfl, laid1 w _⟩
set_option maxRecDepth 100000 in
theorem listRef_any (p : Option Addr) (n c : Nat) (w : World) : Calls Tryd.prog 39 #[.slice p n c] w fun e w' => e = .returned (.agg #[.bool true, .string ⟨#[]⟩, .slice p n c]) ∧ Below w.heap.size w w' := by
  go_enter Tryd.func39, Tryd.ntmps39
  go_wp2
  refine bodyPost_ret (results_item0 rfl _ _ w.heap.size (.bool true) (.string ⟨#[]⟩) (.slice p n c) rfl ?_ ?_ ?_) rfl ?_
  · simp [go_sem]
  · simp [go_sem]
  · simp [go_sem]
  exact ⟨rfl, laid1 w _⟩

theorem strip_zero (l : List UInt8) : strip (0 :: l) = strip l := rfl
theorem strip_else {c : UInt8} (h : c ≠ 0) (l : List UInt8) : strip (c :: l) = c :: l := by
  unfold strip; rw [List.dropWhile_cons, if_neg (by simpa using h)]

set_option maxRecDepth 100000 in
set_option maxHeartbeats 1600000 in
theorem shortRef_any (v : Nat) (w : World) : Calls Tryd.prog 34 #[wordV v] w fun e w' => e = .returned (.string ⟨(shortW v).toArray⟩) ∧ Below w.heap.size w w' := by
  have H1 := Lib.hid (fun W => wordBytesRef_any v W)
  obtain ⟨x0, x1, x2, x3, hv, -⟩ := wordV_form v
  rw [hv] at H1 ⊢
  obtain ⟨bl, hbl⟩ : ∃ bl, be 32 v = bl := ⟨_, rfl⟩
  have hs : shortW v = strip bl := by rw [← hbl]; rfl
  rw [hbl] at H1
  rw [hs]
  clear hbl hs hv
  go_enter Tryd.func34, Tryd.ntmps34
  go_wp2_with fail
  refine (H1.out _).mono ?_
  rintro e w1 ⟨rfl, hb1⟩
  have hB1 := Lib.hid ((laid1 w (.cells #[.int .u64 x0, .int .u64 x1, .int .u64 x2, .int .u64 x3] 24)).trans (hb1.mono (by simp)))
  clear hb1
  go_wp2
  go_loopw [3] (fun s wr => ∃ l : List UInt8, s = .string ⟨l.toArray⟩ ∧ Hid (strip l = strip bl) ∧ wr = w1) (fun s _ => match s with | .string t => t.size | _ => 0)
  case atStart => exact ⟨bl, rfl, Lib.hid rfl, rfl⟩
  case round =>
    obtain ⟨l, rfl, Hl, rfl⟩ := hrel
    cases l with
    | nil =>
      go_wp2
      go_ret
      exact ⟨by rw [← Hl.out]; rfl, hB1.out⟩
    | cons c r =>
      have hsz : (⟨(c :: r).toArray⟩ : ByteArray).size = r.length + 1 := by simp [ByteArray.size]
      have hpos : decide ((0 : Int) < ((r.length + 1 : Nat) : Int)) = true := by simp
      have hgt : decide ((0 : Int) < (r.length : Int) + 1) = true := by simp
      have hc0 : ∀ (h : 0 < (⟨(c :: r).toArray⟩ : ByteArray).size), (⟨(c :: r).toArray⟩ : ByteArray)[0]'h = c := fun h => rfl
      have hex : (⟨(c :: r).toArray⟩ : ByteArray).extract 1 (r.length + 1) = ⟨r.toArray⟩ := by
        have := ext_mk (c :: r) 1 (r.length + 1)
        rw [this]
        simp
      by_cases h0 : c = 0
      · subst h0
        go_wp2
        refine ⟨⟨r, rfl, Lib.hid (by rw [← Hl.out]; rfl), trivial⟩, ?_⟩
        show (⟨r.toArray⟩ : ByteArray).size < (⟨(0 :: r).toArray⟩ : ByteArray).size
        simp [ByteArray.size]
      · have hne : ((c.toNat : Int) == 0) = false := by
          rw [beq_eq_false_iff_ne]
          intro e
          exact h0 (UInt8.toNat_inj.1 (by simpa using e))
        have HN := Lib.hid h0
        clear h0
        go_wp2
        go_ret
        exact ⟨by rw [← Hl.out, strip_else HN.out]; rfl, hB1.out⟩

/-- what the reference says of bytes as a word -/
theorem wordFromRef_lit {t : List UInt8} {v : Nat} (h : wordOf t = v) (ht : t.length ≤ 1099511627776) (w : World) : Calls Tryd.prog 55 #[.string ⟨t.toArray⟩] w fun e w' => e = .returned (wordV v) ∧ Below w.heap.size w w' := by
  have := wordFromRef_any ⟨t.toArray⟩ w ht
  simp only [h] at this
  exact this

set_option maxRecDepth 100000 in
set_option maxHeartbeats 1600000 in
theorem wordOfRef_any (t : List UInt8) (w : World) (ht : t.length ≤ 1099511627776) : Calls Tryd.prog 28 #[.string ⟨t.toArray⟩] w fun e w' => e = .returned (.tuple #[wordV (wordOf t), .bool (isShortW t)]) ∧ Below w.heap.size w w' := by
  obtain ⟨v, hv⟩ : ∃ v, wordOf t = v := ⟨_, rfl⟩
  have H1 := Lib.hid (fun W => wordFromRef_lit hv ht W)
  rw [hv]
  obtain ⟨x0, x1, x2, x3, hw, -⟩ := wordV_form v
  rw [hw] at H1
  have HW := Lib.hid hw
  clear hv hw
  have hlen : (⟨t.toArray⟩ : ByteArray).size = t.length := by simp [ByteArray.size]
  by_cases hl : t.length ≤ 32
  · cases t with
    | nil =>
      have e1 : isShortW [] = true := rfl
      rw [e1]
      go_enter Tryd.func28, Tryd.ntmps28
      go_wp2
      refine wp_region_held_drew (S := fun _ => True) (by kernel_rfl) (trivial) (fun hHeld => ?_)
      refine wpAnyH_take (i := 0) (v := .string ⟨#[]⟩) rfl (by kernel_rfl) (by kernel_rfl) (by kernel_rfl) (fun _ _ _ h => h) (.inl ⟨by rfl, ?_⟩) (by assumption) ?_
      · intro w0 hSw
        go_simp
      simp only [Act.put, List.getElem_toArray, List.getElem_cons_zero, List.setIfInBounds_toArray, List.set_cons_zero, List.set_cons_succ]
      refine wpAnyH_take (i := 2) (v := .string ⟨#[]⟩) rfl (by kernel_rfl) (by kernel_rfl) (by kernel_rfl) (fun _ _ _ h => h) (.inl ⟨by rfl, ?_⟩) (by assumption) ?_
      · intro w0 hSw
        go_simp
      simp only [Act.put, List.getElem_toArray, List.getElem_cons_zero, List.getElem_cons_succ, List.setIfInBounds_toArray, List.set_cons_zero, List.set_cons_succ]
      refine wpAnyH_take (i := 3) (v := .int .i64 0) rfl (by kernel_rfl) (by kernel_rfl) (by kernel_rfl) (fun _ _ _ h => h) (.inl ⟨by rfl, ?_⟩) (by assumption) ?_
      · intro w0 hSw
        go_simp
      simp only [Act.put, List.getElem_toArray, List.getElem_cons_zero, List.getElem_cons_succ, List.setIfInBounds_toArray, List.set_cons_zero, List.set_cons_succ]
      refine wpAnyH_take (i := 4) (v := .bool true) rfl (by kernel_rfl) (by kernel_rfl) (by kernel_rfl) (fun _ _ _ h => h) (.inl ⟨by rfl, ?_⟩) (by assumption) ?_
      · intro w0 hSw
        go_simp
      simp only [Act.put, List.getElem_toArray, List.getElem_cons_zero, List.getElem_cons_succ, List.setIfInBounds_toArray, List.set_cons_zero, List.set_cons_succ]
      refine wpAnyH_ready (rs := [1]) (by kernel_rfl) (by simp) ?_
      refine AllReadyH.cons rfl (fun K hK => ?_) AllReadyH.nil
      go_simp
      go_at_call 55
      refine (H1.out _).mono ?_
      rintro e w1 ⟨rfl, hb1⟩
      have hA : Box4 w1 w.heap.size 0 := (Box4.new0 w 24).kept ((hb1.block _ (by simp)).trans rfl)
      have HA := Lib.hid hA
      obtain ⟨d0, d1, d2, d3, d4⟩ := hA
      refine hK.out _ _ (trivial) (fun hHeld => ?_)
      clear hK K
      try simp only [Act.put, List.getElem_toArray, List.getElem_cons_zero, List.getElem_cons_succ, List.setIfInBounds_toArray, List.set_cons_zero, List.set_cons_succ]
      refine wpAnyH_take (i := 5) (v := .bool true) rfl (by kernel_rfl) (by kernel_rfl) (by kernel_rfl) (fun _ _ _ h => h) (.inl ⟨by rfl, ?_⟩) (by assumption) ?_
      · intro w0 hSw
        go_simp
      simp only [Act.put, List.getElem_toArray, List.getElem_cons_zero, List.getElem_cons_succ, List.setIfInBounds_toArray, List.set_cons_zero, List.set_cons_succ]
      refine wpAnyH_take (i := 6) (v := .string ⟨#[]⟩) rfl (by kernel_rfl) (by kernel_rfl) (by kernel_rfl) (fun _ _ _ h => h) (.inl ⟨by rfl, ?_⟩) (by assumption) ?_
      · intro w0 hSw
        go_simp
      simp only [Act.put, List.getElem_toArray, List.getElem_cons_zero, List.getElem_cons_succ, List.setIfInBounds_toArray, List.set_cons_zero, List.set_cons_succ]
      refine wpAnyH_take (i := 7) (v := .int .i64 0) rfl (by kernel_rfl) (by kernel_rfl) (by kernel_rfl) (fun _ _ _ h => h) (.inl ⟨by rfl, ?_⟩) (by assumption) ?_
      · intro w0 hSw
        go_simp
      simp only [Act.put, List.getElem_toArray, List.getElem_cons_zero, List.getElem_cons_succ, List.setIfInBounds_toArray, List.set_cons_zero, List.set_cons_succ]
      refine wpAnyH_take (i := 8) (v := .bool true) rfl (by kernel_rfl) (by kernel_rfl) (by kernel_rfl) (fun _ _ _ h => h) (.inl ⟨by rfl, ?_⟩) (by assumption) ?_
      · intro w0 hSw
        go_simp
      simp only [Act.put, List.getElem_toArray, List.getElem_cons_zero, List.getElem_cons_succ, List.setIfInBounds_toArray, List.set_cons_zero, List.set_cons_succ]
      refine wpAnyH_take (i := 9) (v := .bool true) rfl (by kernel_rfl) (by kernel_rfl) (by kernel_rfl) (fun _ _ _ h => h) (.inl ⟨by rfl, ?_⟩) (by assumption) ?_
      · intro w0 hSw
        go_simp
      simp only [Act.put, List.getElem_toArray, List.getElem_cons_zero, List.getElem_cons_succ, List.setIfInBounds_toArray, List.set_cons_zero, List.set_cons_succ]
      refine wpAnyH_take (i := 10) (v := undef) rfl (by kernel_rfl) (by kernel_rfl) (by kernel_rfl) (fun _ _ _ h => h) (.inr ⟨by rfl, rfl⟩) (by assumption) ?_
      simp only [Act.put, List.getElem_toArray, List.getElem_cons_zero, List.getElem_cons_succ, List.setIfInBounds_toArray, List.set_cons_zero, List.set_cons_succ]
      refine wpAnyH_take (i := 11) (v := undef) rfl (by kernel_rfl) (by kernel_rfl) (by kernel_rfl) (fun _ _ _ h => h) (.inr ⟨by rfl, rfl⟩) (by assumption) ?_
      simp only [Act.put, List.getElem_toArray, List.getElem_cons_zero, List.getElem_cons_succ, List.setIfInBounds_toArray, List.set_cons_zero, List.set_cons_succ]
      refine wpAnyH_take (i := 12) (v := undef) rfl (by kernel_rfl) (by kernel_rfl) (by kernel_rfl) (fun _ _ _ h => h) (.inr ⟨by rfl, rfl⟩) (by assumption) ?_
      simp only [Act.put, List.getElem_toArray, List.getElem_cons_zero, List.getElem_cons_succ, List.setIfInBounds_toArray, List.set_cons_zero, List.set_cons_succ]
      refine wpAnyH_take (i := 13) (v := .bool true) rfl (by kernel_rfl) (by kernel_rfl) (by kernel_rfl) (fun _ _ _ h => h) (.inl ⟨by rfl, ?_⟩) (by assumption) ?_
      · intro w0 hSw
        go_simp
      simp only [Act.put, List.getElem_toArray, List.getElem_cons_zero, List.getElem_cons_succ, List.setIfInBounds_toArray, List.set_cons_zero, List.set_cons_succ]
      refine wpAnyH_take (i := 14) (v := .bool true) rfl (by kernel_rfl) (by kernel_rfl) (by kernel_rfl) (fun _ _ _ h => h) (.inl ⟨by rfl, ?_⟩) (by assumption) ?_
      · intro w0 hSw
        go_simp
      simp only [Act.put, List.getElem_toArray, List.getElem_cons_zero, List.getElem_cons_succ, List.setIfInBounds_toArray, List.set_cons_zero, List.set_cons_succ]
      refine wpAnyH_ready (rs := [15]) (by kernel_rfl) (by simp) ?_
      refine AllReadyH.cons rfl (fun K hK => ?_) AllReadyH.nil
      go_simp
      refine hK.out _ _ (trivial) (fun hHeld => ?_)
      clear hK K
      try simp only [Act.put, List.getElem_toArray, List.getElem_cons_zero, List.getElem_cons_succ, List.setIfInBounds_toArray, List.set_cons_zero, List.set_cons_succ]
      refine wpAnyH_take (i := 16) (v := .bool true) rfl (by kernel_rfl) (by kernel_rfl) (by kernel_rfl) (fun _ _ _ h => h) (.inl ⟨by rfl, ?_⟩) (by assumption) ?_
      · intro w0 hSw
        go_simp
      simp only [Act.put, List.getElem_toArray, List.getElem_cons_zero, List.getElem_cons_succ, List.setIfInBounds_toArray, List.set_cons_zero, List.set_cons_succ]
      refine wpAnyH_done (by kernel_rfl) ?_ 0
      go_wp2
      refine bodyPost_ret (results_word1 rfl _ _ w.heap.size v rfl (HA.out.setL HW.out)) rfl ?_
      exact ⟨rfl, Below.set4 ((laid1 w _).drew.trans (hb1.mono (by simp))) (Nat.le_refl _) _ _ _ _⟩
    | cons c r =>
      by_cases hc : c = 0
      · subst hc
        have e1 : isShortW (0 :: r) = false := by unfold isShortW; simp [Lib.hasPrefix]
        rw [e1]
        have h1 : decide ((r.length : Int) + 1 ≤ 32) = true := by simp at hl; simp; omega
        have h2 : ((r.length : Int) + 1 == 0) = false := by rw [beq_eq_false_iff_ne]; omega
        have hc0 : ∀ (h : 0 < (⟨((0 : UInt8) :: r).toArray⟩ : ByteArray).size), (⟨((0 : UInt8) :: r).toArray⟩ : ByteArray)[0]'h = 0 := fun h => rfl
        go_enter Tryd.func28, Tryd.ntmps28
        go_wp2
        refine wp_region_held_drew (S := fun _ => True) (by kernel_rfl) (trivial) (fun hHeld => ?_)
        refine wpAnyH_take (i := 0) (v := .string ⟨((0 : UInt8) :: r).toArray⟩) rfl (by kernel_rfl) (by kernel_rfl) (by kernel_rfl) (fun _ _ _ h => h) (.inl ⟨by rfl, ?_⟩) (by assumption) ?_
        · intro w0 hSw
          go_simp
        simp only [Act.put, List.getElem_toArray, List.getElem_cons_zero, List.setIfInBounds_toArray, List.set_cons_zero, List.set_cons_succ]
        refine wpAnyH_take (i := 2) (v := .string ⟨((0 : UInt8) :: r).toArray⟩) rfl (by kernel_rfl) (by kernel_rfl) (by kernel_rfl) (fun _ _ _ h => h) (.inl ⟨by rfl, ?_⟩) (by assumption) ?_
        · intro w0 hSw
          go_simp
        simp only [Act.put, List.getElem_toArray, List.getElem_cons_zero, List.getElem_cons_succ, List.setIfInBounds_toArray, List.set_cons_zero, List.set_cons_succ]
        refine wpAnyH_take (i := 3) (v := .int .i64 ((r.length : Int) + 1)) rfl (by kernel_rfl) (by kernel_rfl) (by kernel_rfl) (fun _ _ _ h => h) (.inl ⟨by rfl, ?_⟩) (by assumption) ?_
        · intro w0 hSw
          go_simp
        simp only [Act.put, List.getElem_toArray, List.getElem_cons_zero, List.getElem_cons_succ, List.setIfInBounds_toArray, List.set_cons_zero, List.set_cons_succ]
        refine wpAnyH_take (i := 4) (v := .bool true) rfl (by kernel_rfl) (by kernel_rfl) (by kernel_rfl) (fun _ _ _ h => h) (.inl ⟨by rfl, ?_⟩) (by assumption) ?_
        · intro w0 hSw
          go_simp
        simp only [Act.put, List.getElem_toArray, List.getElem_cons_zero, List.getElem_cons_succ, List.setIfInBounds_toArray, List.set_cons_zero, List.set_cons_succ]
        refine wpAnyH_ready (rs := [1]) (by kernel_rfl) (by simp) ?_
        refine AllReadyH.cons rfl (fun K hK => ?_) AllReadyH.nil
        go_simp
        go_at_call 55
        refine (H1.out _).mono ?_
        rintro e w1 ⟨rfl, hb1⟩
        have hA : Box4 w1 w.heap.size 0 := (Box4.new0 w 24).kept ((hb1.block _ (by simp)).trans rfl)
        have HA := Lib.hid hA
        obtain ⟨d0, d1, d2, d3, d4⟩ := hA
        refine hK.out _ _ (trivial) (fun hHeld => ?_)
        clear hK K
        try simp only [Act.put, List.getElem_toArray, List.getElem_cons_zero, List.getElem_cons_succ, List.setIfInBounds_toArray, List.set_cons_zero, List.set_cons_succ]
        refine wpAnyH_take (i := 5) (v := .bool true) rfl (by kernel_rfl) (by kernel_rfl) (by kernel_rfl) (fun _ _ _ h => h) (.inl ⟨by rfl, ?_⟩) (by assumption) ?_
        · intro w0 hSw
          go_simp
        simp only [Act.put, List.getElem_toArray, List.getElem_cons_zero, List.getElem_cons_succ, List.setIfInBounds_toArray, List.set_cons_zero, List.set_cons_succ]
        refine wpAnyH_take (i := 6) (v := .string ⟨((0 : UInt8) :: r).toArray⟩) rfl (by kernel_rfl) (by kernel_rfl) (by kernel_rfl) (fun _ _ _ h => h) (.inl ⟨by rfl, ?_⟩) (by assumption) ?_
        · intro w0 hSw
          go_simp
        simp only [Act.put, List.getElem_toArray, List.getElem_cons_zero, List.getElem_cons_succ, List.setIfInBounds_toArray, List.set_cons_zero, List.set_cons_succ]
        refine wpAnyH_take (i := 7) (v := .int .i64 ((r.length : Int) + 1)) rfl (by kernel_rfl) (by kernel_rfl) (by kernel_rfl) (fun _ _ _ h => h) (.inl ⟨by rfl, ?_⟩) (by assumption) ?_
        · intro w0 hSw
          go_simp
        simp only [Act.put, List.getElem_toArray, List.getElem_cons_zero, List.getElem_cons_succ, List.setIfInBounds_toArray, List.set_cons_zero, List.set_cons_succ]
        refine wpAnyH_take (i := 8) (v := .bool false) rfl (by kernel_rfl) (by kernel_rfl) (by kernel_rfl) (fun _ _ _ h => h) (.inl ⟨by rfl, ?_⟩) (by assumption) ?_
        · intro w0 hSw
          go_simp
        simp only [Act.put, List.getElem_toArray, List.getElem_cons_zero, List.getElem_cons_succ, List.setIfInBounds_toArray, List.set_cons_zero, List.set_cons_succ]
        refine wpAnyH_take (i := 9) (v := .bool false) rfl (by kernel_rfl) (by kernel_rfl) (by kernel_rfl) (fun _ _ _ h => h) (.inl ⟨by rfl, ?_⟩) (by assumption) ?_
        · intro w0 hSw
          go_simp
        simp only [Act.put, List.getElem_toArray, List.getElem_cons_zero, List.getElem_cons_succ, List.setIfInBounds_toArray, List.set_cons_zero, List.set_cons_succ]
        refine wpAnyH_take (i := 10) (v := .string ⟨((0 : UInt8) :: r).toArray⟩) rfl (by kernel_rfl) (by kernel_rfl) (by kernel_rfl) (fun _ _ _ h => h) (.inl ⟨by rfl, ?_⟩) (by assumption) ?_
        · intro w0 hSw
          go_simp
        simp only [Act.put, List.getElem_toArray, List.getElem_cons_zero, List.getElem_cons_succ, List.setIfInBounds_toArray, List.set_cons_zero, List.set_cons_succ]
        refine wpAnyH_take (i := 11) (v := .int .u8 0) rfl (by kernel_rfl) (by kernel_rfl) (by kernel_rfl) (fun _ _ _ h => h) (.inl ⟨by rfl, ?_⟩) (by assumption) ?_
        · intro w0 hSw
          go_simp
        simp only [Act.put, List.getElem_toArray, List.getElem_cons_zero, List.getElem_cons_succ, List.setIfInBounds_toArray, List.set_cons_zero, List.set_cons_succ]
        refine wpAnyH_take (i := 12) (v := .bool false) rfl (by kernel_rfl) (by kernel_rfl) (by kernel_rfl) (fun _ _ _ h => h) (.inl ⟨by rfl, ?_⟩) (by assumption) ?_
        · intro w0 hSw
          go_simp
        simp only [Act.put, List.getElem_toArray, List.getElem_cons_zero, List.getElem_cons_succ, List.setIfInBounds_toArray, List.set_cons_zero, List.set_cons_succ]
        refine wpAnyH_take (i := 13) (v := .bool false) rfl (by kernel_rfl) (by kernel_rfl) (by kernel_rfl) (fun _ _ _ h => h) (.inl ⟨by rfl, ?_⟩) (by assumption) ?_
        · intro w0 hSw
          go_simp
        simp only [Act.put, List.getElem_toArray, List.getElem_cons_zero, List.getElem_cons_succ, List.setIfInBounds_toArray, List.set_cons_zero, List.set_cons_succ]
        refine wpAnyH_take (i := 14) (v := .bool false) rfl (by kernel_rfl) (by kernel_rfl) (by kernel_rfl) (fun _ _ _ h => h) (.inl ⟨by rfl, ?_⟩) (by assumption) ?_
        · intro w0 hSw
          go_simp
        simp only [Act.put, List.getElem_toArray, List.getElem_cons_zero, List.getElem_cons_succ, List.setIfInBounds_toArray, List.set_cons_zero, List.set_cons_succ]
        refine wpAnyH_ready (rs := [15]) (by kernel_rfl) (by simp) ?_
        refine AllReadyH.cons rfl (fun K hK => ?_) AllReadyH.nil
        go_simp
        refine hK.out _ _ (trivial) (fun hHeld => ?_)
        clear hK K
        try simp only [Act.put, List.getElem_toArray, List.getElem_cons_zero, List.getElem_cons_succ, List.setIfInBounds_toArray, List.set_cons_zero, List.set_cons_succ]
        refine wpAnyH_take (i := 16) (v := .bool false) rfl (by kernel_rfl) (by kernel_rfl) (by kernel_rfl) (fun _ _ _ h => h) (.inl ⟨by rfl, ?_⟩) (by assumption) ?_
        · intro w0 hSw
          go_simp
        simp only [Act.put, List.getElem_toArray, List.getElem_cons_zero, List.getElem_cons_succ, List.setIfInBounds_toArray, List.set_cons_zero, List.set_cons_succ]
        refine wpAnyH_done (by kernel_rfl) ?_ 0
        go_wp2
        refine bodyPost_ret (results_word1 rfl _ _ w.heap.size v rfl (HA.out.setL HW.out)) rfl ?_
        exact ⟨rfl, Below.set4 ((laid1 w _).drew.trans (hb1.mono (by simp))) (Nat.le_refl _) _ _ _ _⟩
      · have e1 : isShortW (c :: r) = true := isShortW_iff.2 ⟨hl, by simpa using hc⟩
        rw [e1]
        have h1 : decide ((r.length : Int) + 1 ≤ 32) = true := by simp at hl; simp; omega
        have h2 : ((r.length : Int) + 1 == 0) = false := by rw [beq_eq_false_iff_ne]; omega
        have hc0 : ∀ (h : 0 < (⟨(c :: r).toArray⟩ : ByteArray).size), (⟨(c :: r).toArray⟩ : ByteArray)[0]'h = c := fun h => rfl
        have h3 : ((c.toNat : Int) != 0) = true := by
          rw [bne_iff_ne]
          intro e
          exact hc (UInt8.toNat_inj.1 (by simpa using e))
        clear hc
        go_enter Tryd.func28, Tryd.ntmps28
        go_wp2
        refine wp_region_held_drew (S := fun _ => True) (by kernel_rfl) (trivial) (fun hHeld => ?_)
        refine wpAnyH_take (i := 0) (v := .string ⟨(c :: r).toArray⟩) rfl (by kernel_rfl) (by kernel_rfl) (by kernel_rfl) (fun _ _ _ h => h) (.inl ⟨by rfl, ?_⟩) (by assumption) ?_
        · intro w0 hSw
          go_simp
        simp only [Act.put, List.getElem_toArray, List.getElem_cons_zero, List.setIfInBounds_toArray, List.set_cons_zero, List.set_cons_succ]
        refine wpAnyH_take (i := 2) (v := .string ⟨(c :: r).toArray⟩) rfl (by kernel_rfl) (by kernel_rfl) (by kernel_rfl) (fun _ _ _ h => h) (.inl ⟨by rfl, ?_⟩) (by assumption) ?_
        · intro w0 hSw
          go_simp
        simp only [Act.put, List.getElem_toArray, List.getElem_cons_zero, List.getElem_cons_succ, List.setIfInBounds_toArray, List.set_cons_zero, List.set_cons_succ]
        refine wpAnyH_take (i := 3) (v := .int .i64 ((r.length : Int) + 1)) rfl (by kernel_rfl) (by kernel_rfl) (by kernel_rfl) (fun _ _ _ h => h) (.inl ⟨by rfl, ?_⟩) (by assumption) ?_
        · intro w0 hSw
          go_simp
        simp only [Act.put, List.getElem_toArray, List.getElem_cons_zero, List.getElem_cons_succ, List.setIfInBounds_toArray, List.set_cons_zero, List.set_cons_succ]
        refine wpAnyH_take (i := 4) (v := .bool true) rfl (by kernel_rfl) (by kernel_rfl) (by kernel_rfl) (fun _ _ _ h => h) (.inl ⟨by rfl, ?_⟩) (by assumption) ?_
        · intro w0 hSw
          go_simp
        simp only [Act.put, List.getElem_toArray, List.getElem_cons_zero, List.getElem_cons_succ, List.setIfInBounds_toArray, List.set_cons_zero, List.set_cons_succ]
        refine wpAnyH_ready (rs := [1]) (by kernel_rfl) (by simp) ?_
        refine AllReadyH.cons rfl (fun K hK => ?_) AllReadyH.nil
        go_simp
        go_at_call 55
        refine (H1.out _).mono ?_
        rintro e w1 ⟨rfl, hb1⟩
        have hA : Box4 w1 w.heap.size 0 := (Box4.new0 w 24).kept ((hb1.block _ (by simp)).trans rfl)
        have HA := Lib.hid hA
        obtain ⟨d0, d1, d2, d3, d4⟩ := hA
        refine hK.out _ _ (trivial) (fun hHeld => ?_)
        clear hK K
        try simp only [Act.put, List.getElem_toArray, List.getElem_cons_zero, List.getElem_cons_succ, List.setIfInBounds_toArray, List.set_cons_zero, List.set_cons_succ]
        refine wpAnyH_take (i := 5) (v := .bool true) rfl (by kernel_rfl) (by kernel_rfl) (by kernel_rfl) (fun _ _ _ h => h) (.inl ⟨by rfl, ?_⟩) (by assumption) ?_
        · intro w0 hSw
          go_simp
        simp only [Act.put, List.getElem_toArray, List.getElem_cons_zero, List.getElem_cons_succ, List.setIfInBounds_toArray, List.set_cons_zero, List.set_cons_succ]
        refine wpAnyH_take (i := 6) (v := .string ⟨(c :: r).toArray⟩) rfl (by kernel_rfl) (by kernel_rfl) (by kernel_rfl) (fun _ _ _ h => h) (.inl ⟨by rfl, ?_⟩) (by assumption) ?_
        · intro w0 hSw
          go_simp
        simp only [Act.put, List.getElem_toArray, List.getElem_cons_zero, List.getElem_cons_succ, List.setIfInBounds_toArray, List.set_cons_zero, List.set_cons_succ]
        refine wpAnyH_take (i := 7) (v := .int .i64 ((r.length : Int) + 1)) rfl (by kernel_rfl) (by kernel_rfl) (by kernel_rfl) (fun _ _ _ h => h) (.inl ⟨by rfl, ?_⟩) (by assumption) ?_
        · intro w0 hSw
          go_simp
        simp only [Act.put, List.getElem_toArray, List.getElem_cons_zero, List.getElem_cons_succ, List.setIfInBounds_toArray, List.set_cons_zero, List.set_cons_succ]
        refine wpAnyH_take (i := 8) (v := .bool false) rfl (by kernel_rfl) (by kernel_rfl) (by kernel_rfl) (fun _ _ _ h => h) (.inl ⟨by rfl, ?_⟩) (by assumption) ?_
        · intro w0 hSw
          go_simp
        simp only [Act.put, List.getElem_toArray, List.getElem_cons_zero, List.getElem_cons_succ, List.setIfInBounds_toArray, List.set_cons_zero, List.set_cons_succ]
        refine wpAnyH_take (i := 9) (v := .bool false) rfl (by kernel_rfl) (by kernel_rfl) (by kernel_rfl) (fun _ _ _ h => h) (.inl ⟨by rfl, ?_⟩) (by assumption) ?_
        · intro w0 hSw
          go_simp
        simp only [Act.put, List.getElem_toArray, List.getElem_cons_zero, List.getElem_cons_succ, List.setIfInBounds_toArray, List.set_cons_zero, List.set_cons_succ]
        refine wpAnyH_take (i := 10) (v := .string ⟨(c :: r).toArray⟩) rfl (by kernel_rfl) (by kernel_rfl) (by kernel_rfl) (fun _ _ _ h => h) (.inl ⟨by rfl, ?_⟩) (by assumption) ?_
        · intro w0 hSw
          go_simp
        simp only [Act.put, List.getElem_toArray, List.getElem_cons_zero, List.getElem_cons_succ, List.setIfInBounds_toArray, List.set_cons_zero, List.set_cons_succ]
        refine wpAnyH_take (i := 11) (v := .int .u8 c.toNat) rfl (by kernel_rfl) (by kernel_rfl) (by kernel_rfl) (fun _ _ _ h => h) (.inl ⟨by rfl, ?_⟩) (by assumption) ?_
        · intro w0 hSw
          go_simp
        simp only [Act.put, List.getElem_toArray, List.getElem_cons_zero, List.getElem_cons_succ, List.setIfInBounds_toArray, List.set_cons_zero, List.set_cons_succ]
        refine wpAnyH_take (i := 12) (v := .bool true) rfl (by kernel_rfl) (by kernel_rfl) (by kernel_rfl) (fun _ _ _ h => h) (.inl ⟨by rfl, ?_⟩) (by assumption) ?_
        · intro w0 hSw
          go_simp
        simp only [Act.put, List.getElem_toArray, List.getElem_cons_zero, List.getElem_cons_succ, List.setIfInBounds_toArray, List.set_cons_zero, List.set_cons_succ]
        refine wpAnyH_take (i := 13) (v := .bool true) rfl (by kernel_rfl) (by kernel_rfl) (by kernel_rfl) (fun _ _ _ h => h) (.inl ⟨by rfl, ?_⟩) (by assumption) ?_
        · intro w0 hSw
          go_simp
        simp only [Act.put, List.getElem_toArray, List.getElem_cons_zero, List.getElem_cons_succ, List.setIfInBounds_toArray, List.set_cons_zero, List.set_cons_succ]
        refine wpAnyH_take (i := 14) (v := .bool true) rfl (by kernel_rfl) (by kernel_rfl) (by kernel_rfl) (fun _ _ _ h => h) (.inl ⟨by rfl, ?_⟩) (by assumption) ?_
        · intro w0 hSw
          go_simp
        simp only [Act.put, List.getElem_toArray, List.getElem_cons_zero, List.getElem_cons_succ, List.setIfInBounds_toArray, List.set_cons_zero, List.set_cons_succ]
        refine wpAnyH_ready (rs := [15]) (by kernel_rfl) (by simp) ?_
        refine AllReadyH.cons rfl (fun K hK => ?_) AllReadyH.nil
        go_simp
        refine hK.out _ _ (trivial) (fun hHeld => ?_)
        clear hK K
        try simp only [Act.put, List.getElem_toArray, List.getElem_cons_zero, List.getElem_cons_succ, List.setIfInBounds_toArray, List.set_cons_zero, List.set_cons_succ]
        refine wpAnyH_take (i := 16) (v := .bool true) rfl (by kernel_rfl) (by kernel_rfl) (by kernel_rfl) (fun _ _ _ h => h) (.inl ⟨by rfl, ?_⟩) (by assumption) ?_
        · intro w0 hSw
          go_simp
        simp only [Act.put, List.getElem_toArray, List.getElem_cons_zero, List.getElem_cons_succ, List.setIfInBounds_toArray, List.set_cons_zero, List.set_cons_succ]
        refine wpAnyH_done (by kernel_rfl) ?_ 0
        go_wp2
        refine bodyPost_ret (results_word1 rfl _ _ w.heap.size v rfl (HA.out.setL HW.out)) rfl ?_
        exact ⟨rfl, Below.set4 ((laid1 w _).drew.trans (hb1.mono (by simp))) (Nat.le_refl _) _ _ _ _⟩
  · have e1 : isShortW t = false := by unfold isShortW; simp [hl]
    rw [e1]
    have h1 : decide ((t.length : Int) ≤ 32) = false := by simp; omega
    go_enter Tryd.func28, Tryd.ntmps28
    go_wp2
    refine wp_region_held_drew (S := fun _ => True) (by kernel_rfl) (trivial) (fun hHeld => ?_)
    refine wpAnyH_take (i := 0) (v := .string ⟨t.toArray⟩) rfl (by kernel_rfl) (by kernel_rfl) (by kernel_rfl) (fun _ _ _ h => h) (.inl ⟨by rfl, ?_⟩) (by assumption) ?_
    · intro w0 hSw
      go_simp
    simp only [Act.put, List.getElem_toArray, List.getElem_cons_zero, List.setIfInBounds_toArray, List.set_cons_zero, List.set_cons_succ]
    refine wpAnyH_take (i := 2) (v := .string ⟨t.toArray⟩) rfl (by kernel_rfl) (by kernel_rfl) (by kernel_rfl) (fun _ _ _ h => h) (.inl ⟨by rfl, ?_⟩) (by assumption) ?_
    · intro w0 hSw
      go_simp
    simp only [Act.put, List.getElem_toArray, List.getElem_cons_zero, List.getElem_cons_succ, List.setIfInBounds_toArray, List.set_cons_zero, List.set_cons_succ]
    refine wpAnyH_take (i := 3) (v := .int .i64 t.length) rfl (by kernel_rfl) (by kernel_rfl) (by kernel_rfl) (fun _ _ _ h => h) (.inl ⟨by rfl, ?_⟩) (by assumption) ?_
    · intro w0 hSw
      go_simp
    simp only [Act.put, List.getElem_toArray, List.getElem_cons_zero, List.getElem_cons_succ, List.setIfInBounds_toArray, List.set_cons_zero, List.set_cons_succ]
    refine wpAnyH_take (i := 4) (v := .bool false) rfl (by kernel_rfl) (by kernel_rfl) (by kernel_rfl) (fun _ _ _ h => h) (.inl ⟨by rfl, ?_⟩) (by assumption) ?_
    · intro w0 hSw
      go_simp
    simp only [Act.put, List.getElem_toArray, List.getElem_cons_zero, List.getElem_cons_succ, List.setIfInBounds_toArray, List.set_cons_zero, List.set_cons_succ]
    refine wpAnyH_ready (rs := [1]) (by kernel_rfl) (by simp) ?_
    refine AllReadyH.cons rfl (fun K hK => ?_) AllReadyH.nil
    go_simp
    go_at_call 55
    refine (H1.out _).mono ?_
    rintro e w1 ⟨rfl, hb1⟩
    have hA : Box4 w1 w.heap.size 0 := (Box4.new0 w 24).kept ((hb1.block _ (by simp)).trans rfl)
    have HA := Lib.hid hA
    obtain ⟨d0, d1, d2, d3, d4⟩ := hA
    refine hK.out _ _ (trivial) (fun hHeld => ?_)
    clear hK K
    try simp only [Act.put, List.getElem_toArray, List.getElem_cons_zero, List.getElem_cons_succ, List.setIfInBounds_toArray, List.set_cons_zero, List.set_cons_succ]
    refine wpAnyH_take (i := 5) (v := .bool false) rfl (by kernel_rfl) (by kernel_rfl) (by kernel_rfl) (fun _ _ _ h => h) (.inl ⟨by rfl, ?_⟩) (by assumption) ?_
    · intro w0 hSw
      go_simp
    simp only [Act.put, List.getElem_toArray, List.getElem_cons_zero, List.getElem_cons_succ, List.setIfInBounds_toArray, List.set_cons_zero, List.set_cons_succ]
    refine wpAnyH_take (i := 6) (v := undef) rfl (by kernel_rfl) (by kernel_rfl) (by kernel_rfl) (fun _ _ _ h => h) (.inr ⟨by rfl, rfl⟩) (by assumption) ?_
    simp only [Act.put, List.getElem_toArray, List.getElem_cons_zero, List.getElem_cons_succ, List.setIfInBounds_toArray, List.set_cons_zero, List.set_cons_succ]
    refine wpAnyH_take (i := 7) (v := undef) rfl (by kernel_rfl) (by kernel_rfl) (by kernel_rfl) (fun _ _ _ h => h) (.inr ⟨by rfl, rfl⟩) (by assumption) ?_
    simp only [Act.put, List.getElem_toArray, List.getElem_cons_zero, List.getElem_cons_succ, List.setIfInBounds_toArray, List.set_cons_zero, List.set_cons_succ]
    refine wpAnyH_take (i := 8) (v := undef) rfl (by kernel_rfl) (by kernel_rfl) (by kernel_rfl) (fun _ _ _ h => h) (.inr ⟨by rfl, rfl⟩) (by assumption) ?_
    simp only [Act.put, List.getElem_toArray, List.getElem_cons_zero, List.getElem_cons_succ, List.setIfInBounds_toArray, List.set_cons_zero, List.set_cons_succ]
    refine wpAnyH_take (i := 9) (v := undef) rfl (by kernel_rfl) (by kernel_rfl) (by kernel_rfl) (fun _ _ _ h => h) (.inr ⟨by rfl, rfl⟩) (by assumption) ?_
    simp only [Act.put, List.getElem_toArray, List.getElem_cons_zero, List.getElem_cons_succ, List.setIfInBounds_toArray, List.set_cons_zero, List.set_cons_succ]
    refine wpAnyH_take (i := 10) (v := undef) rfl (by kernel_rfl) (by kernel_rfl) (by kernel_rfl) (fun _ _ _ h => h) (.inr ⟨by rfl, rfl⟩) (by assumption) ?_
    simp only [Act.put, List.getElem_toArray, List.getElem_cons_zero, List.getElem_cons_succ, List.setIfInBounds_toArray, List.set_cons_zero, List.set_cons_succ]
    refine wpAnyH_take (i := 11) (v := undef) rfl (by kernel_rfl) (by kernel_rfl) (by kernel_rfl) (fun _ _ _ h => h) (.inr ⟨by rfl, rfl⟩) (by assumption) ?_
    simp only [Act.put, List.getElem_toArray, List.getElem_cons_zero, List.getElem_cons_succ, List.setIfInBounds_toArray, List.set_cons_zero, List.set_cons_succ]
    refine wpAnyH_take (i := 12) (v := undef) rfl (by kernel_rfl) (by kernel_rfl) (by kernel_rfl) (fun _ _ _ h => h) (.inr ⟨by rfl, rfl⟩) (by assumption) ?_
    simp only [Act.put, List.getElem_toArray, List.getElem_cons_zero, List.getElem_cons_succ, List.setIfInBounds_toArray, List.set_cons_zero, List.set_cons_succ]
    refine wpAnyH_take (i := 13) (v := undef) rfl (by kernel_rfl) (by kernel_rfl) (by kernel_rfl) (fun _ _ _ h => h) (.inr ⟨by rfl, rfl⟩) (by assumption) ?_
    simp only [Act.put, List.getElem_toArray, List.getElem_cons_zero, List.getElem_cons_succ, List.setIfInBounds_toArray, List.set_cons_zero, List.set_cons_succ]
    refine wpAnyH_take (i := 14) (v := .bool false) rfl (by kernel_rfl) (by kernel_rfl) (by kernel_rfl) (fun _ _ _ h => h) (.inl ⟨by rfl, ?_⟩) (by assumption) ?_
    · intro w0 hSw
      go_simp
    simp only [Act.put, List.getElem_toArray, List.getElem_cons_zero, List.getElem_cons_succ, List.setIfInBounds_toArray, List.set_cons_zero, List.set_cons_succ]
    refine wpAnyH_ready (rs := [15]) (by kernel_rfl) (by simp) ?_
    refine AllReadyH.cons rfl (fun K hK => ?_) AllReadyH.nil
    go_simp
    refine hK.out _ _ (trivial) (fun hHeld => ?_)
    clear hK K
    try simp only [Act.put, List.getElem_toArray, List.getElem_cons_zero, List.getElem_cons_succ, List.setIfInBounds_toArray, List.set_cons_zero, List.set_cons_succ]
    refine wpAnyH_take (i := 16) (v := .bool false) rfl (by kernel_rfl) (by kernel_rfl) (by kernel_rfl) (fun _ _ _ h => h) (.inl ⟨by rfl, ?_⟩) (by assumption) ?_
    · intro w0 hSw
      go_simp
    simp only [Act.put, List.getElem_toArray, List.getElem_cons_zero, List.getElem_cons_succ, List.setIfInBounds_toArray, List.set_cons_zero, List.set_cons_succ]
    refine wpAnyH_done (by kernel_rfl) ?_ 0
    go_wp2
    refine bodyPost_ret (results_word1 rfl _ _ w.heap.size v rfl (HA.out.setL HW.out)) rfl ?_
    exact ⟨rfl, Below.set4 ((laid1 w _).drew.trans (hb1.mono (by simp))) (Nat.le_refl _) _ _ _ _⟩
end Go.Proofs.YtmjblnhnadffmaaDoor
/- Contracts of the reference's Slot and SlotFrom. -/
namespace Go.Proofs.YtmjblnhnadffmaaDoor
open Go.RowKit Go.Shelf Go.Lib

set_option maxRecDepth 100000 in
set_option maxHeartbeats 1600000 in
theorem slotRef_any (v : Nat) (w : World) : Calls Tryd.prog 12 #[wordV v] w fun e w' => e = .returned (.string ⟨(slotL v).toArray⟩) ∧ Below w.heap.size w w' := by
  have H1 := Lib.hid (fun W => shortRef_any v W)
  have hlen := shortW_length v
  obtain ⟨sl, hsl⟩ : ∃ sl, shortW v = sl := ⟨_, rfl⟩
  have H2 : ∀ W, Calls Tryd.prog 32 #[.agg #[.bool false, .string ⟨sl.toArray⟩, .slice none 0 0]] W fun e w' => e = .returned (.tuple #[.string ⟨(slotL v).toArray⟩, .int .i64 0]) ∧ Below W.heap.size W w' := by
    intro W
    have := encodeRef_any (.mk false sl []) (.slice none 0 0) W (by simp [Item.size, sizeAll]) (by
      have := encode_text (t := sl) (by rw [← hsl]; omega)
      obtain ⟨h, _⟩ := encode_ok this
      have h2 := (encode_ok this).2.2.2
      rw [← h]; omega) (Reads.nil _ _)
    unfold encodeV at this
    rw [encode_text (by rw [← hsl]; omega)] at this
    unfold slotL
    rw [hsl]
    exact this
  obtain ⟨tl, htl⟩ : ∃ tl, slotL v = tl := ⟨_, rfl⟩
  rw [htl] at H2 ⊢
  rw [hsl] at H1
  have HE := Lib.hid H2
  obtain ⟨x0, x1, x2, x3, hv, -⟩ := wordV_form v
  rw [hv] at H1 ⊢
  clear hv hsl htl H2 hlen
  go_enter Tryd.func12, Tryd.ntmps12
  go_wp2_with fail
  refine (H1.out _).mono ?_
  rintro e w1 ⟨rfl, hb1⟩
  go_wp2_with fail
  refine (textRef_any _ _).mono ?_
  rintro e w2 ⟨rfl, hb2⟩
  go_wp2_with fail
  refine (HE.out _).mono ?_
  rintro e w3 ⟨rfl, hb3⟩
  go_wp2
  go_ret
  have b1 := (laid1 w _).trans (hb1.mono (by simp))
  have b2 := b1.trans (hb2.mono b1.size)
  exact ⟨rfl, b2.trans (hb3.mono b2.size)⟩
theorem decodeRef_lit {s : List UInt8} {x : Item} {n : Int} (h : decode s = (x, n)) (hs : s.length ≤ 1099511627776) (w : World) :
    Calls Tryd.prog 27 #[.string ⟨s.toArray⟩] w fun e w' => Below w.heap.size w w' ∧ ∃ p c, e = .returned (.tuple #[.agg #[.bool x.isList, .string ⟨x.text.toArray⟩, .slice p x.list.length c], .int .i64 n]) ∧ Hid (Reads w' w'.heap.size (.slice p x.list.length c) x.list) := by
  refine (decodeRef_any s w hs).mono ?_
  rintro e w' ⟨hb, y, m, p, c, rfl, HD, HR⟩
  obtain ⟨rfl, rfl⟩ : y = x ∧ m = n := by have := HD.out.symm.trans h; cases this; exact ⟨rfl, rfl⟩
  exact ⟨hb, p, c, rfl, HR⟩
theorem wordOfRef_lit {t : List UInt8} {v : Nat} {b : Bool} (h : wordOf t = v) (hb : isShortW t = b) (ht : t.length ≤ 1099511627776) (w : World) : Calls Tryd.prog 28 #[.string ⟨t.toArray⟩] w fun e w' => e = .returned (.tuple #[wordV v, .bool b]) ∧ Below w.heap.size w w' := by
  rw [← h, ← hb]; exact wordOfRef_any t w ht

set_option maxRecDepth 100000 in
set_option maxHeartbeats 1200000 in
theorem slotFromRef_any (s : List UInt8) (w : World) (hs : s.length ≤ 1099511627776) :
    Calls Tryd.prog 10 #[.string ⟨s.toArray⟩] w fun e w' => e = .returned (.tuple #[wordV (slotFrom s).1, .int .i64 (slotFrom s).2]) ∧ Below w.heap.size w w' := by
  obtain ⟨x, n, hx⟩ : ∃ x n, decode s = (x, n) := ⟨_, _, rfl⟩
  have ht := decode_text_length hx
  have H1 := Lib.hid (fun W => decodeRef_lit hx hs W)
  obtain ⟨b, hb⟩ : ∃ b, isShortW x.text = b := ⟨_, rfl⟩
  obtain ⟨v, hv⟩ : ∃ v, wordOf x.text = v := ⟨_, rfl⟩
  have H2 := Lib.hid (fun W => wordOfRef_lit hv hb (by omega) W)
  obtain ⟨r, hr⟩ : ∃ r, slotFrom s = r := ⟨_, rfl⟩
  rw [hr]
  have hR := hr
  unfold slotFrom at hR
  rw [hx, hb, hv] at hR
  dsimp only at hR
  have hcase : (n ≠ 0 ∧ (n = 40 ∨ n = 41 ∨ n = 42)) ∨ n = 0 := by
    rcases decode_cases s with ⟨y, e⟩ | e | e | e <;> (have e2 := e.symm.trans hx; cases e2; simp)
  obtain ⟨x0, x1, x2, x3, hw, -⟩ := wordV_form v
  rw [hw] at H2
  obtain ⟨isl, hisl⟩ : ∃ l, x.isList = l := ⟨_, rfl⟩
  obtain ⟨t, htt⟩ : ∃ t, x.text = t := ⟨_, rfl⟩
  rw [hisl, htt] at H1
  rw [htt] at H2
  rw [hisl, htt] at hR
  go_enter Tryd.func10, Tryd.ntmps10
  go_wp2_with fail
  refine (H1.out _).mono ?_
  rintro e w1 ⟨hb1, p, c, rfl, -⟩
  go_wp2_with fail
  refine (H2.out _).mono ?_
  rintro e w2 ⟨rfl, hb2⟩
  have hX3 : Box3 w2 w1.heap.size (.bool isl) (.string ⟨t.toArray⟩) (.slice p x.list.length c) := (Box3.new w1 _ _ _ _).kept (hb2.block _ (by simp))
  obtain ⟨q0, q1, q2, q3⟩ := hX3
  have hz1 := hb1.size
  have hz2 := hb2.size
  simp at hz1 hz2
  have hA : Box4 w2 w.heap.size 0 := ((Box4.new0 w 24).kept (hb1.block _ (by simp))).kept ((hb2.block _ (by simp; omega)).trans (Below.heap_alloc _ _ _ (by omega)))
  have HA := Lib.hid hA
  obtain ⟨d0, d1, d2, d3, d4⟩ := hA
  have hB2 : Below w.heap.size w w2 := (((laid1 w _).trans (hb1.mono (by simp))).alloc (by omega) _).trans (hb2.mono (by simp; omega))
  have HB2 := Lib.hid hB2
  clear hB2
  have hl0 : w.heap.size < w2.heap.size := by omega
  have hl1 : w1.heap.size < w2.heap.size := by omega
  have HE := Lib.hid (slot_end HA.out hl0 HB2.out)
  have HG := Lib.hid (slot_good HA.out hl0 HB2.out hw)
  clear hx htt hisl hb hv ht
  rcases hcase with ⟨-, rfl | rfl | rfl⟩ | rfl
  · obtain rfl : r = (0, 160) := hR.symm
    go_wp2_with fail
    have hE := HE.out (.cells #[.int .u64 x0, .int .u64 x1, .int .u64 x2, .int .u64 x3] 24)
    refine bodyPost_ret (results_word1 rfl _ _ w.heap.size 0 rfl hE.1) rfl ?_
    exact ⟨rfl, hE.2⟩
  · obtain rfl : r = (0, 160) := hR.symm
    go_wp2_with fail
    have hE := HE.out (.cells #[.int .u64 x0, .int .u64 x1, .int .u64 x2, .int .u64 x3] 24)
    refine bodyPost_ret (results_word1 rfl _ _ w.heap.size 0 rfl hE.1) rfl ?_
    exact ⟨rfl, hE.2⟩
  · obtain rfl : r = (0, 160) := hR.symm
    go_wp2_with fail
    have hE := HE.out (.cells #[.int .u64 x0, .int .u64 x1, .int .u64 x2, .int .u64 x3] 24)
    refine bodyPost_ret (results_word1 rfl _ _ w.heap.size 0 rfl hE.1) rfl ?_
    exact ⟨rfl, hE.2⟩
  · cases isl with
    | true =>
      obtain rfl : r = (0, 160) := hR.symm
      go_wp2_with fail
      have hE := HE.out (.cells #[.int .u64 x0, .int .u64 x1, .int .u64 x2, .int .u64 x3] 24)
      refine bodyPost_ret (results_word1 rfl _ _ w.heap.size 0 rfl hE.1) rfl ?_
      exact ⟨rfl, hE.2⟩
    | false =>
      cases b with
      | false =>
        obtain rfl : r = (0, 160) := by rw [← hR]; simp
        go_wp2_with fail
        have hE := HE.out (.cells #[.int .u64 x0, .int .u64 x1, .int .u64 x2, .int .u64 x3] 24)
        refine bodyPost_ret (results_word1 rfl _ _ w.heap.size 0 rfl hE.1) rfl ?_
        exact ⟨rfl, hE.2⟩
      | true =>
        cases t with
        | nil =>
          obtain rfl : r = (0, 160) := by rw [← hR]; simp
          go_wp2_with fail
          have hE := HE.out (.cells #[.int .u64 x0, .int .u64 x1, .int .u64 x2, .int .u64 x3] 24)
          refine bodyPost_ret (results_word1 rfl _ _ w.heap.size 0 rfl hE.1) rfl ?_
          exact ⟨rfl, hE.2⟩
        | cons c' r' =>
          obtain rfl : r = (v, 0) := by rw [← hR]; simp
          go_wp2_with fail
          have hG := HG.out (.cells #[.int .u64 x0, .int .u64 x1, .int .u64 x2, .int .u64 x3] 24)
          refine bodyPost_ret (results_word1 rfl _ _ w.heap.size v rfl hG.1) rfl ?_
          exact ⟨by rw [hw]; rfl, hG.2⟩
end Go.Proofs.YtmjblnhnadffmaaDoor
