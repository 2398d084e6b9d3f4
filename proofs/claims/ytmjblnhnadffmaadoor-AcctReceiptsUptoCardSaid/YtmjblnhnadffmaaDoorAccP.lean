/- Plain accounts, receipts, words of a storage as bytes. No program is named. -/
import Derived.Test.YtmjblnhnadffmaaDoorWrdE
import Derived.Test.YtmjblnhnadffmaaDoorPlain
namespace Go.Proofs.YtmjblnhnadffmaaDoor
open Go.RowKit

theorem encode_text {t : List UInt8} (h : t.length ≤ 1000) : encode (.mk false t []) = (putText t, 0) := by
  have hp : put (.mk false t []) = putText t := rfl
  rw [encode_good rfl rfl, hp]
  rw [hp]
  have : (putText t).length ≤ t.length + 9 := by
    unfold putText
    split
    · omega
    · unfold framed
      have := num_length t.length
      split <;> simp <;> omega
  omega
/-- a word of a storage as bytes -/
def slotL (v : Nat) : List UInt8 := putText (shortW v)
/-- bytes as such a word -/
def slotFrom (s : List UInt8) : Nat × Int :=
  if (decode s).2 ≠ 0 ∨ (decode s).1.isList = true ∨ isShortW (decode s).1.text = false ∨ (decode s).1.text = [] then (0, 160) else (wordOf (decode s).1.text, 0)
theorem isShortW_iff {l : List UInt8} : isShortW l = true ↔ l.length ≤ 32 ∧ l.head? ≠ some 0 := by
  unfold isShortW
  rw [Bool.and_eq_true, decide_eq_true_eq]
  cases l with
  | nil => simp [Lib.hasPrefix]
  | cons b l =>
    simp only [Lib.hasPrefix, List.isPrefixOf, List.head?_cons, Bool.and_true, Bool.not_eq_true', ne_eq, Option.some.injEq]
    constructor
    · rintro ⟨h1, h2⟩
      refine ⟨h1, fun e => ?_⟩
      subst e; simp at h2
    · rintro ⟨h1, h2⟩
      refine ⟨h1, ?_⟩
      rw [beq_eq_false_iff_ne]
      exact fun e => h2 e.symm
theorem isShortW_zero {l : List UInt8} (h : isShortW l = true) : wordOf l = 0 ↔ l = [] := by
  obtain ⟨h1, h2⟩ := isShortW_iff.1 h
  exact wordOf_zero h1 h2
end Go.Proofs.YtmjblnhnadffmaaDoor
