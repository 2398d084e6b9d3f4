/- Contract of sha.Sum. -/
import Derived.Test.YtpfmdhcmhcoddaaGreatDoorShaD
namespace Go.Proofs.YtpfmdhcmhcoddaaGreatDoor
open Go.RowKit Go.Shelf Go.Lib

/-- texts in memory -/
def Strs (w : World) (v : Value) (xs : List ByteArray) : Prop :=
  ∃ p c, v = .slice p xs.length c ∧ xs.length ≤ c ∧ (xs = [] ∨ ∃ bk o, p = some ⟨bk, o, none⟩ ∧ bk < w.heap.size ∧ ∀ (j : Nat) x, xs[j]? = some x → w.cell? ⟨bk, o + j, none⟩ = some (.string x))
theorem Strs.below {w w' : World} {v : Value} {xs : List ByteArray} (h : Strs w v xs) (hb : Below w.heap.size w w') : Strs w' v xs := by
  obtain ⟨p, c, hv, hc, h⟩ := h
  refine ⟨p, c, hv, hc, ?_⟩
  rcases h with h | ⟨bk, o, hp, hk, h⟩
  · exact .inl h
  · exact .inr ⟨bk, o, hp, Nat.lt_of_lt_of_le hk hb.size, fun j x hx => (hb.cell (p := ⟨bk, o + j, none⟩) hk).trans (h j x hx)⟩
/-- all letters of texts -/
def lettersOf (xs : List ByteArray) : List UInt8 := (xs.map (·.data.toList)).flatten
theorem joinTail_nil (r : List (List UInt8)) : Lib.joinTail [] r = r.flatten := by
  induction r with
  | nil => rfl
  | cons x r ih => simp [Lib.joinTail] at ih ⊢; try exact ih
theorem join_letters (xs : List (List UInt8)) : Lib.join xs [] = xs.flatten := by
  cases xs with
  | nil => rfl
  | cons x r => rw [Lib.join_cons, joinTail_nil, List.flatten_cons]
theorem join_any (v : Value) (xs : List ByteArray) (w : World) (hv : Strs w v xs) (hN : xs.length ≤ 1099511627776) (hlen : (lettersOf xs).length ≤ 1099511627776) :
    Calls Tryz.prog 149 #[v, .string ⟨#[]⟩] w fun e w' => e = .returned (.string ⟨(lettersOf xs).toArray⟩) ∧ Below w.heap.size w w' := by
  obtain ⟨p, c, rfl, hc, rfl | ⟨bk, o, rfl, hk, h⟩⟩ := hv
  · refine (Tryz.strings_Join_none p c ⟨#[]⟩ w).mono ?_
    rintro e w' ⟨rfl, rfl⟩
    exact ⟨rfl, Below.refl _ _⟩
  · have e : Lib.join (xs.map (·.data.toList)) (⟨#[]⟩ : ByteArray).data.toList = lettersOf xs := join_letters _
    have := Tryz.strings_Join bk o c xs ⟨#[]⟩ w h hk (by omega) hc (by rw [e]; omega)
    rw [e] at this
    exact this

/-- a text in blocks -/
def chopN : Nat → List UInt8 → List (List UInt8)
  | 0, _ => []
  | n + 1, l => l.take 64 :: chopN n (l.drop 64)
theorem chopN_blocks (n : Nat) (l : List UInt8) (h : l.length = 64 * n) : Blocks (chopN n l) l := by
  induction n generalizing l with
  | zero =>
    obtain rfl : l = [] := List.length_eq_zero_iff.1 (by omega)
    exact Blocks.nil
  | succ n ih =>
    obtain ⟨h1, h2⟩ := ih (l.drop 64) (by rw [List.length_drop]; omega)
    refine ⟨by simp [chopN, h1], fun x hx => ?_⟩
    rcases List.mem_cons.1 hx with hx | hx
    · rw [hx, List.length_take]; omega
    · exact h2 x hx
theorem pad_len (s : List UInt8) : (pad s).length % 64 = 0 := by
  unfold pad padTail
  rw [List.length_append, List.length_cons, List.length_append, List.length_replicate, be_length]
  omega
/-- a text's sum -/
def shaOf (s : List UInt8) : List UInt8 := sumOf (chopN ((pad s).length / 64) (pad s))
theorem shaOf_eq {s : List UInt8} {xs : List (List UInt8)} (h : Blocks xs (pad s)) : sumOf xs = shaOf s := by
  have := pad_len s
  rw [Blocks.inj h (chopN_blocks ((pad s).length / 64) (pad s) (by omega))]
  rfl
theorem StepS.refl (Bn : Nat) (W : World) : StepS Bn W W := ⟨⟨rfl, rfl, rfl, Nat.le_refl _, fun _ _ _ => rfl⟩, id⟩
/-- what Sum holds between two rounds -/
def SumI (w : World) (Bn : Nat) (pre : List (List UInt8)) (W : World) : Prop :=
  Row32 W w.heap.size (pre.foldl St.take St.start).list ∧ (∃ t, Boxed W Bn 9 (.string t)) ∧ Below w.heap.size w W ∧ w.heap.size < W.heap.size
theorem SumI.grown {w W W' : World} {Bn : Nat} {pre : List (List UInt8)} {row : Option Nat} (h : SumI w Bn pre W) (hg : W.grownBy W' row) (h1 : row ≠ some w.heap.size) (h2 : row ≠ some Bn) (h3 : ∀ r, row = some r → w.heap.size ≤ r) : SumI w Bn pre W' := by
  obtain ⟨a1, ⟨t, a2⟩, a3, a4⟩ := h
  exact ⟨a1.kept (hg.block _ a4 (fun e => h1 e.symm)), ⟨t, a2.kept hg (fun e => h2 e.symm)⟩, a3.grown hg a3.size h3, Nat.lt_of_lt_of_le a4 hg.size⟩
theorem SumI.own (w : World) (Bn B : Nat) (h : w.heap.size < Bn) (hB : Bn < B) : OwnFrom B (SumI w Bn) := fun _ _ _ _ hi hg hr =>
  hi.grown hg (fun e => by have := (hr _ e).1; omega) (fun e => by have := (hr _ e).1; omega) (fun r e => by have := (hr r e).1; omega)
theorem SumI.step {w W W' : World} {Bn : Nat} {pre : List (List UInt8)} (h : SumI w Bn pre W) (hBn : w.heap.size < Bn) (hs : StepS Bn W W') : SumI w Bn pre W' := by
  obtain ⟨a1, a2, a3, a4⟩ := h
  obtain ⟨hg, hk⟩ := hs
  exact ⟨a1.kept (hg.block _ a4 (fun e => by cases e; omega)), hk a2, a3.grown hg a3.size (fun r e => by cases e; omega), Nat.lt_of_lt_of_le a4 hg.size⟩
end Go.Proofs.YtpfmdhcmhcoddaaGreatDoor
