/- Plain items: what is written is read as it was, and what is read is written so again. No program is named. -/
import Derived.Test.YtjccllfgendpdaaDoorRlpQ
namespace Go.Proofs.YtjccllfgendpdaaDoor
open Go.RowKit

theorem headByte {n : Nat} (h : n < 256) : (UInt8.ofNat n).toNat = n := by
  rw [UInt8.toNat_ofNat']; exact Nat.mod_eq_of_lt h
theorem value_num {n : Nat} (h : n < 18446744073709551616) : value (num n) = (n, 0) := by
  unfold value
  have h1 := num_length n
  have h2 : ¬ ((num n).length > 8 ∨ (num n).head? = some 0) := by
    rintro (e | e)
    · omega
    · exact strip_head (be 8 n) e
  rw [if_neg h2, val_num h]
theorem num_pos {n : Nat} (h : n < 18446744073709551616) (h0 : 0 < n) : 0 < (num n).length := by
  cases hx : num n with
  | nil =>
    have := val_num h
    rw [hx] at this
    simp [val_nil] at this
    omega
  | cons c r => simp
theorem take_app (a b : List UInt8) : (a ++ b).take a.length = a := by simp
theorem drop_app (a b : List UInt8) : (a ++ b).drop a.length = b := by simp

theorem cut_framed (s rest : List UInt8) (base : Nat) (hb : base = 128 ∨ base = 192) (hs : s.length < 9223372036854775808) (h1 : base = 128 → ¬ (s.length = 1 ∧ (s.headD 0).toNat < 128)) :
    cut (framed s base ++ rest) = some (s, decide (base = 192), rest) := by
  unfold framed
  by_cases hl : s.length < 56
  · rw [if_pos hl, List.cons_append, cut, headByte (by omega)]
    have e : (base + s.length - 128) % 64 = s.length := by omega
    rw [if_neg (by omega), e, if_neg (by omega), if_neg (by simp), if_neg ?_, take_app, drop_app]
    · rcases hb with rfl | rfl <;> simp <;> omega
    · rintro ⟨c1, c2, c3⟩
      refine h1 (by omega) ⟨c2, ?_⟩
      obtain ⟨c, rfl⟩ := List.length_eq_one_iff.1 c2
      exact c3
  · have h8 := num_length s.length
    have h0 := num_pos (n := s.length) (by omega) (by omega)
    rw [if_neg hl, List.cons_append, cut, headByte (by omega)]
    have e : (base + 55 + (num s.length).length - 128) % 64 = 55 + (num s.length).length := by omega
    rw [if_neg (by omega), e, if_pos (by omega), Nat.add_sub_cancel_left, List.append_assoc, if_neg (by simp), take_app, drop_app, value_num (by omega), if_neg (by simp; omega), if_neg (by simp), take_app, drop_app]
    rcases hb with rfl | rfl <;> simp <;> omega
theorem cut_put_text (t rest : List UInt8) (hs : t.length < 9223372036854775808) : cut (putText t ++ rest) = some (t, false, rest) := by
  unfold putText
  split
  · rename_i h
    match t, h with
    | [c], h =>
      have : c.toNat < 128 := h.2
      rw [List.cons_append, List.nil_append, cut, if_pos this]
  · rename_i h
    rw [cut_framed t rest 128 (.inl rfl) hs (fun _ => h)]
    rfl
theorem framed_ne (s : List UInt8) (b : Nat) : framed s b ≠ [] := by
  unfold framed
  split <;> simp
theorem put_ne (x : Item) : put x ≠ [] := by
  cases x with
  | mk b t l =>
    simp only [put]
    split
    · exact framed_ne _ _
    · unfold putText
      split
      · rename_i h
        intro e
        rw [e] at h
        simp at h
      · exact framed_ne _ _
theorem framed_ge (s : List UInt8) (b : Nat) : s.length ≤ (framed s b).length := by
  unfold framed
  split <;> simp
  omega
theorem putText_ge (t : List UInt8) : t.length ≤ (putText t).length := by
  unfold putText
  split
  · omega
  · exact framed_ge _ _
theorem putAll_append (l r : List Item) : putAll (l ++ r) = putAll l ++ putAll r := by
  induction l with
  | nil => rfl
  | cons x l ih => simp only [List.cons_append, putAll, ih, List.append_assoc]
/-- what is written is read as it was -/
theorem all_put (n : Nat) : (∀ (x : Item) (rest : List UInt8), x.size ≤ n → wrong x = false → (put x).length < 9223372036854775808 → first (put x ++ rest) = some (x, rest)) ∧
    (∀ (l : List Item), sizeAll l ≤ n → wrongAny l = false → (putAll l).length < 9223372036854775808 → all (putAll l) = some l) := by
  induction n with
  | zero =>
    refine ⟨fun x _ h => by have := x.size_pos; omega, fun l h _ _ => ?_⟩
    cases l with
    | nil => rfl
    | cons x r => have := x.size_pos; simp [sizeAll] at h; omega
  | succ n ih =>
    have hfirst : ∀ (x : Item) (rest : List UInt8), x.size ≤ n + 1 → wrong x = false → (put x).length < 9223372036854775808 → first (put x ++ rest) = some (x, rest) := by
      intro x rest hx hw hp
      cases x with
      | mk b t l =>
        simp only [Item.size] at hx
        cases b with
        | true =>
          simp only [wrong, if_true, Bool.or_eq_false_iff, Bool.not_eq_false'] at hw
          have ht : t = [] := by simpa using hw.1
          subst ht
          simp only [put, if_true] at hp ⊢
          have hg := framed_ge (putAll l) 192
          unfold first
          rw [cut_framed _ _ 192 (.inr rfl) (by omega) (fun h => by omega)]
          simp only [decide_true, if_true]
          rw [ih.2 l (by omega) hw.2 (by omega)]
          rfl
        | false =>
          simp only [wrong, Bool.false_eq_true, if_false, Bool.not_eq_false'] at hw
          have hl : l = [] := by simpa using hw
          subst hl
          simp only [put, Bool.false_eq_true, if_false] at hp ⊢
          have hg := putText_ge t
          unfold first
          rw [cut_put_text _ _ (by omega)]
          rfl
    refine ⟨hfirst, ?_⟩
    intro l
    induction l with
    | nil => exact fun _ _ _ => rfl
    | cons x r ihr =>
      intro hs hw hp
      simp only [sizeAll] at hs
      simp only [wrongAny, Bool.or_eq_false_iff] at hw
      simp only [putAll, List.length_append] at hp
      have hx := x.size_pos
      have hne : putAll (x :: r) ≠ [] := by
        simp only [putAll]
        intro e
        exact put_ne x (List.append_eq_nil_iff.1 e).1
      rw [all_step hne]
      simp only [putAll]
      rw [hfirst x _ (by omega) hw.1 (by omega)]
      dsimp only
      rw [ih.2 r (by omega) hw.2 (by omega)]
      rfl
theorem first_put (x : Item) (rest : List UInt8) (hw : wrong x = false) (hp : (put x).length < 9223372036854775808) : first (put x ++ rest) = some (x, rest) := (all_put x.size).1 x rest (Nat.le_refl _) hw hp
theorem all_putAll (l : List Item) (hw : wrongAny l = false) (hp : (putAll l).length < 9223372036854775808) : all (putAll l) = some l := (all_put (sizeAll l)).2 l (Nat.le_refl _) hw hp

/-- what the first item's bytes are, once it is cut -/
theorem cut_back {s inn rest : List UInt8} {b : Bool} (h : cut s = some (inn, b, rest)) (hs : s.length < 9223372036854775808) : s = (if b then framed inn 192 else putText inn) ++ rest := by
  cases s with
  | nil => simp [cut] at h
  | cons c r =>
    have hc := c.toNat_lt
    have ec : UInt8.ofNat c.toNat = c := by simp
    rw [cut] at h
    split at h
    · rename_i h1
      simp only [Option.some.injEq, Prod.mk.injEq] at h
      obtain ⟨rfl, rfl, rfl⟩ := h
      simp [putText, h1]
    · rename_i h1
      obtain ⟨n, hn⟩ : ∃ n, (c.toNat - 128) % 64 = n := ⟨_, rfl⟩
      rw [hn] at h
      have hb : c.toNat = (if 192 ≤ c.toNat then 192 else 128) + n := by split <;> omega
      split at h
      · rename_i h2
        split at h
        · simp at h
        · rename_i h3
          split at h
          · simp at h
          · rename_i h4
            split at h
            · simp at h
            · rename_i h5
              simp only [Option.some.injEq, Prod.mk.injEq] at h
              obtain ⟨rfl, rfl, rfl⟩ := h
              obtain ⟨k, hk⟩ : ∃ k, n - 55 = k := ⟨_, rfl⟩
              rw [hk] at h3 h4 h5 ⊢
              have hv : (value (r.take k)).2 = 0 ∧ 56 ≤ (value (r.take k)).1 := by
                refine ⟨?_, ?_⟩
                · rcases Classical.em ((value (r.take k)).2 = 0) with h | h
                  · exact h
                  · exact absurd (.inl h) h4
                · rcases Nat.lt_or_ge (value (r.take k)).1 56 with h | h
                  · exact absurd (.inr h) h4
                  · exact h
              obtain ⟨hv1, hv2⟩ := hv
              have hgood : ¬ ((r.take k).length > 8 ∨ (r.take k).head? = some 0) := by
                intro e
                unfold value at hv1
                rw [if_pos e] at hv1
                simp at hv1
              have hval : (value (r.take k)).1 = val (r.take k) := by unfold value; rw [if_neg hgood]
              rw [hval] at h5 hv2 ⊢
              have hnum : num (val (r.take k)) = r.take k := num_val (fun e => hgood (.inr e)) (by
                rcases Nat.lt_or_ge 8 (r.take k).length with h | h
                · exact absurd (.inl h) hgood
                · exact h)
              have hlen : (r.take k).length = k := by rw [List.length_take]; omega
              have hil : ((r.drop k).take (val (r.take k))).length = val (r.take k) := by rw [List.length_take]; omega
              have hfr : ∀ base, base + 55 + k = c.toNat → framed ((r.drop k).take (val (r.take k))) base ++ (r.drop k).drop (val (r.take k)) = c :: r := by
                intro base hbase
                unfold framed
                rw [hil, if_neg (by omega), hnum, hlen, hbase, ec]
                simp only [List.cons_append, List.append_assoc, List.take_append_drop]
              by_cases h6 : 192 ≤ c.toNat
              · rw [if_pos h6] at hb
                rw [if_pos (by simpa using h6)]
                exact (hfr 192 (by omega)).symm
              · rw [if_neg h6] at hb
                rw [if_neg (by simpa using h6)]
                have hpt : putText ((r.drop k).take (val (r.take k))) = framed ((r.drop k).take (val (r.take k))) 128 := by
                  unfold putText
                  rw [if_neg (by omega)]
                rw [hpt]
                exact (hfr 128 (by omega)).symm
      · rename_i h2
        split at h
        · simp at h
        · rename_i h3
          split at h
          · simp at h
          · rename_i h4
            simp only [Option.some.injEq, Prod.mk.injEq] at h
            obtain ⟨rfl, rfl, rfl⟩ := h
            have hil : (r.take n).length = n := by rw [List.length_take]; omega
            have hfr : ∀ base, base + n = c.toNat → framed (r.take n) base ++ r.drop n = c :: r := by
              intro base hbase
              unfold framed
              rw [hil, if_pos (by omega), hbase, ec]
              simp only [List.cons_append, List.take_append_drop]
            by_cases h6 : 192 ≤ c.toNat
            · rw [if_pos h6] at hb
              rw [if_pos (by simpa using h6)]
              exact (hfr 192 (by omega)).symm
            · rw [if_neg h6] at hb
              rw [if_neg (by simpa using h6)]
              have hpt : putText (r.take n) = framed (r.take n) 128 := by
                unfold putText
                rw [if_neg]
                rintro ⟨e1, e2⟩
                refine h4 ⟨by omega, by omega, ?_⟩
                match r, n, hil, e1, e2 with
                | c' :: r', n + 1, _, _, e2 => simpa using e2
                | [], n, hil, e1, _ => simp at e1
                | _ :: _, 0, _, e1, _ => simp at e1
              rw [hpt]
              exact (hfr 128 (by omega)).symm
/-- what is read is written so again, and is right -/
theorem all_back (n : Nat) : (∀ (s : List UInt8) (x : Item) (rest : List UInt8), s.length ≤ n → s.length < 9223372036854775808 → first s = some (x, rest) → s = put x ++ rest ∧ wrong x = false) ∧
    (∀ (s : List UInt8) (l : List Item), s.length ≤ n → s.length < 9223372036854775808 → all s = some l → s = putAll l ∧ wrongAny l = false) := by
  induction n with
  | zero =>
    refine ⟨fun s x rest h _ hf => ?_, fun s l h _ ha => ?_⟩
    · obtain rfl : s = [] := List.length_eq_zero_iff.1 (by omega)
      cases hf
    · obtain rfl : s = [] := List.length_eq_zero_iff.1 (by omega)
      cases ha
      exact ⟨rfl, rfl⟩
  | succ n ih =>
    have hfirst : ∀ (s : List UInt8) (x : Item) (rest : List UInt8), s.length ≤ n + 1 → s.length < 9223372036854775808 → first s = some (x, rest) → s = put x ++ rest ∧ wrong x = false := by
      intro s x rest hs hs2 hf
      unfold first at hf
      cases hc : cut s with
      | none => rw [hc] at hf; cases hf
      | some q =>
        obtain ⟨inn, b, r⟩ := q
        have h1 := cut_back hc hs2
        have h2 := cut_short hc
        rw [hc] at hf
        dsimp only at hf
        cases b with
        | false =>
          simp only [Bool.false_eq_true, if_false, Option.some.injEq, Prod.mk.injEq] at hf h1
          obtain ⟨rfl, rfl⟩ := hf
          refine ⟨?_, rfl⟩
          simp only [put, Bool.false_eq_true, if_false]
          exact h1
        | true =>
          simp only [if_true] at hf h1
          cases ha : all inn with
          | none => rw [ha] at hf; cases hf
          | some l =>
            rw [ha] at hf
            simp only [Option.map_some, Option.some.injEq, Prod.mk.injEq] at hf
            obtain ⟨rfl, rfl⟩ := hf
            have h3 := h2.2.2 rfl
            obtain ⟨h4, h5⟩ := ih.2 inn l (by omega) (by omega) ha
            refine ⟨?_, ?_⟩
            · simp only [put, if_true]
              rw [← h4]
              exact h1
            · simp only [wrong, if_true, h5]
              rfl
    refine ⟨hfirst, ?_⟩
    intro s l hs hs2 ha
    by_cases hne : s = []
    · subst hne
      cases ha
      exact ⟨rfl, rfl⟩
    · rw [all_step hne] at ha
      cases hf : first s with
      | none => rw [hf] at ha; cases ha
      | some q =>
        obtain ⟨x, rest⟩ := q
        rw [hf] at ha
        dsimp only at ha
        obtain ⟨h1, h2⟩ := hfirst s x rest hs hs2 hf
        have hlen : (put x).length + rest.length = s.length := by rw [h1, List.length_append]
        have hp : 0 < (put x).length := List.length_pos_iff.2 (put_ne x)
        cases hr : all rest with
        | none => rw [hr] at ha; cases ha
        | some ys =>
          rw [hr] at ha
          cases ha
          obtain ⟨h3, h4⟩ := ih.2 rest ys (by omega) (by omega) hr
          refine ⟨?_, ?_⟩
          · simp only [putAll]
            rw [← h3]
            exact h1
          · simp only [wrongAny, h2, h4]
            rfl
theorem all_is {s : List UInt8} {l : List Item} (hs : s.length < 9223372036854775808) (h : all s = some l) : s = putAll l ∧ wrongAny l = false := (all_back s.length).2 s l (Nat.le_refl _) hs h

/-- an item's bytes are read as the item -/
theorem decode_encode {x : Item} {s : List UInt8} (h : encode x = (s, 0)) : decode s = (x, 0) := by
  unfold encode at h
  split at h
  · cases h
  · rename_i hd
    split at h
    · cases h
    · rename_i hw
      split at h
      · cases h
      · rename_i hl
        cases h
        have h1 := first_put x [] (by simpa using hw) (by omega)
        rw [List.append_nil] at h1
        unfold decode
        rw [if_neg hl, all_step (put_ne x), h1]
        simp only [all_nil, Option.map_some]
        rw [if_neg hd]
/-- bytes that are read are written so again -/
theorem encode_decode {x : Item} {s : List UInt8} (h : decode s = (x, 0)) : encode x = (s, 0) := by
  unfold decode at h
  split at h
  · cases h
  · rename_i hl
    split at h
    · rename_i y ha
      split at h
      · cases h
      · rename_i hd
        cases h
        obtain ⟨h1, h2⟩ := all_is (by omega) ha
        simp only [putAll, List.append_nil] at h1
        simp only [wrongAny, Bool.or_false] at h2
        unfold encode
        rw [if_neg hd, h2, if_neg (by simp), ← h1, if_neg hl]
    · cases h
theorem encode_ok {x : Item} {s : List UInt8} (h : encode x = (s, 0)) : s = put x ∧ wrong x = false ∧ deep x 12 = false ∧ s.length ≤ 65536 := by
  unfold encode at h
  split at h
  · cases h
  · rename_i hd
    split at h
    · cases h
    · rename_i hw
      split at h
      · cases h
      · rename_i hl
        cases h
        exact ⟨rfl, by simpa using hw, by simpa using hd, by omega⟩
/-- bytes of an item with more behind them are none -/
theorem decode_behind {x : Item} {s more : List UInt8} (h : encode x = (s, 0)) (hm : more ≠ []) (hl : s.length + more.length ≤ 65536) : decode (s ++ more) = (.none, 40) := by
  obtain ⟨rfl, hw, _, hs⟩ := encode_ok h
  unfold decode
  rw [if_neg (by rw [List.length_append]; omega), all_step (by simp [put_ne]), first_put x more hw (by omega)]
  dsimp only
  cases hr : all more with
  | none => rfl
  | some ys =>
    cases ys with
    | nil =>
      have := (all_is (by omega) hr).1
      exact absurd this hm
    | cons y r => rfl
/-- bytes of an item, one less, are none -/
theorem decode_less {x : Item} {s : List UInt8} (h : encode x = (s, 0)) : decode (s.take (s.length - 1)) = (.none, 40) := by
  obtain ⟨rfl, hw, _, hs⟩ := encode_ok h
  have hne := put_ne x
  have hpos : 0 < (put x).length := List.length_pos_iff.2 hne
  unfold decode
  rw [if_neg (by rw [List.length_take]; omega)]
  split
  · rename_i y ha
    exfalso
    obtain ⟨h1, h2⟩ := all_is (by rw [List.length_take]; omega) ha
    simp only [putAll, List.append_nil] at h1
    simp only [wrongAny, Bool.or_false] at h2
    have h3 : put x = put y ++ (put x).drop ((put x).length - 1) := by rw [← h1, List.take_append_drop]
    have hyl : (put y).length ≤ (put x).length := by rw [← h1, List.length_take]; omega
    have h4 := first_put y ((put x).drop ((put x).length - 1)) h2 (by omega)
    rw [← h3] at h4
    have h5 := first_put x [] hw (by omega)
    rw [List.append_nil, h4] at h5
    simp only [Option.some.injEq, Prod.mk.injEq] at h5
    have := congrArg List.length h5.2
    rw [List.length_drop] at this
    simp at this
    omega
  · rfl
end Go.Proofs.YtjccllfgendpdaaDoor
