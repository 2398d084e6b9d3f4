/- Plain items: what is deep, and the bytes of a list of one or two. No program is named. -/
import Derived.Test.YtjccllfgendpdaaDoorRlpT
namespace Go.Proofs.YtjccllfgendpdaaDoor
open Go.RowKit

mutual
theorem deep_mono : ∀ (x : Item) (m : Nat), deep x (m + 1) = true → deep x m = true
  | .mk _ _ l, 0, _ => by simp [deep]
  | .mk _ _ l, m + 1, h => by
    simp only [deep, Nat.add_eq_zero_iff, Nat.succ_ne_self, and_false, if_false, Nat.add_sub_cancel] at h ⊢
    exact deepAny_mono l m h
theorem deepAny_mono : ∀ (l : List Item) (m : Nat), deepAny l (m + 1) = true → deepAny l m = true
  | [], _, h => by simp [deepAny] at h
  | x :: r, m, h => by
    simp only [deepAny, Bool.or_eq_true] at h ⊢
    rcases h with h | h
    · exact .inl (deep_mono x m h)
    · exact .inr (deepAny_mono r m h)
end
theorem framed_drop (s : List UInt8) (b : Nat) : s.length < (framed s b).length ∧ (framed s b).drop ((framed s b).length - s.length) = s := by
  unfold framed
  split
  · refine ⟨by simp, ?_⟩
    rw [List.length_cons, Nat.add_sub_cancel_left]
    rfl
  · refine ⟨by simp; omega, ?_⟩
    have e : (UInt8.ofNat (b + 55 + (num s.length).length) :: (num s.length ++ s)).length - s.length = (num s.length).length + 1 := by simp; omega
    rw [e, List.drop_succ_cons, List.drop_left]
theorem encode_good {x : Item} (h : deep x 12 = false) (h2 : wrong x = false) (h3 : (put x).length ≤ 65536) : encode x = (put x, 0) := by
  unfold encode
  rw [h, h2, if_neg (by simp), if_neg (by simp), if_neg (by omega)]
/-- the bytes of a list of one end with that one's -/
theorem encode_wrap {x : Item} {s : List UInt8} (h : encode (.mk true [] [x]) = (s, 0)) : ∃ a, encode x = (a, 0) ∧ a.length < s.length ∧ s.drop (s.length - a.length) = a := by
  obtain ⟨h1, h2, h3, h4⟩ := encode_ok h
  have e : putAll [x] = put x := by simp [putAll]
  simp only [put, if_true, e] at h1
  subst h1
  obtain ⟨q1, q2⟩ := framed_drop (put x) 192
  have hw : wrong x = false := by
    simp only [wrong, wrongAny, if_true, Bool.or_false] at h2
    simpa using h2
  have hd : deep x 12 = false := by
    simp only [deep, deepAny, Bool.or_false] at h3
    cases hx : deep x 12 with
    | false => rfl
    | true => have h5 := deep_mono x 11 hx; simp [h5] at h3
  exact ⟨put x, encode_good hd hw (by omega), q1, q2⟩
theorem encode_wrap2 {x y : Item} {a b t : List UInt8} (hx : encode x = (a, 0)) (hy : encode y = (b, 0)) (h : encode (.mk true [] [x, y]) = (t, 0)) : a.length + b.length < t.length ∧ t.drop (t.length - a.length - b.length) = a ++ b := by
  obtain ⟨h1, _, _, _⟩ := encode_ok h
  obtain ⟨rfl, _, _, _⟩ := encode_ok hx
  obtain ⟨rfl, _, _, _⟩ := encode_ok hy
  have e : putAll [x, y] = put x ++ put y := by simp [putAll]
  simp only [put, if_true, e] at h1
  subst h1
  obtain ⟨q1, q2⟩ := framed_drop (put x ++ put y) 192
  rw [List.length_append] at q1 q2
  exact ⟨q1, by rw [Nat.sub_sub]; exact q2⟩
theorem same_comm (x y : Item) : same x y = same y x := by
  rw [Bool.eq_iff_iff, same_iff, same_iff]
  exact ⟨Eq.symm, Eq.symm⟩
end Go.Proofs.YtjccllfgendpdaaDoor
