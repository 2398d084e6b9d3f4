/- SHA-256 on plain lists: the padded text, its blocks, the sum. No program is named. -/
import Derived.Test.YtpfmdhcmhcoddaaGreatDoorShaP
import Derived.Test.YtpfmdhcmhcoddaaGreatDoorPlain
namespace Go.Proofs.YtpfmdhcmhcoddaaGreatDoor
open Go.RowKit

/-- what stands behind a text of n bytes, of which m are left behind whole blocks -/
def padTail (n m : Nat) : List UInt8 := 128 :: (List.replicate ((119 - m) % 64) 0 ++ be 8 (8 * n % 18446744073709551616))
/-- a text, padded -/
def pad (s : List UInt8) : List UInt8 := s ++ padTail s.length (s.length % 64)
/-- a row of blocks -/
def Blocks (xs : List (List UInt8)) (l : List UInt8) : Prop := xs.flatten = l ∧ ∀ x ∈ xs, x.length = 64
theorem Blocks.nil : Blocks [] [] := ⟨rfl, by simp⟩
theorem Blocks.snoc {xs : List (List UInt8)} {l x : List UInt8} (h : Blocks xs l) (hx : x.length = 64) : Blocks (xs ++ [x]) (l ++ x) := by
  obtain ⟨h1, h2⟩ := h
  refine ⟨by simp [h1], fun y hy => ?_⟩
  rcases List.mem_append.1 hy with hy | hy
  · exact h2 y hy
  · simp at hy; rw [hy]; exact hx
theorem Blocks.inj {xs ys : List (List UInt8)} {l : List UInt8} (h : Blocks xs l) (h' : Blocks ys l) : xs = ys := by
  induction xs generalizing ys l with
  | nil =>
    obtain ⟨h1, _⟩ := h
    obtain ⟨h3, h4⟩ := h'
    cases ys with
    | nil => rfl
    | cons y ys =>
      have := h4 y (by simp)
      have e := congrArg List.length (h1.trans h3.symm)
      simp only [List.flatten_cons, List.length_append, List.flatten_nil, List.length_nil] at e
      omega
  | cons x xs ih =>
    obtain ⟨h1, h2⟩ := h
    obtain ⟨h3, h4⟩ := h'
    have hx := h2 x (by simp)
    cases ys with
    | nil =>
      have e := congrArg List.length (h1.trans h3.symm)
      simp only [List.flatten_cons, List.length_append, List.flatten_nil, List.length_nil] at e
      omega
    | cons y ys =>
      have hy := h4 y (by simp)
      have e := h1.trans h3.symm
      simp only [List.flatten_cons] at e
      obtain ⟨e1, e2⟩ := List.append_inj e (by omega)
      subst e1
      rw [ih (l := ys.flatten) ⟨e2, fun z hz => h2 z (by simp [hz])⟩ ⟨rfl, fun z hz => h4 z (by simp [hz])⟩]
/-- where the sum begins -/
def St.start : St := ⟨1779033703, 3144134277, 1013904242, 2773480762, 1359893119, 2600822924, 528734635, 1541459225⟩
/-- a word's bytes -/
def bytes32 (x : UInt32) : List UInt8 := [(x >>> 24).toUInt8, (x >>> 16).toUInt8, (x >>> 8).toUInt8, x.toUInt8]
/-- what the blocks of a text give -/
def sumOf (xs : List (List UInt8)) : List UInt8 := (xs.foldl St.take St.start).list.flatMap bytes32
end Go.Proofs.YtpfmdhcmhcoddaaGreatDoor
