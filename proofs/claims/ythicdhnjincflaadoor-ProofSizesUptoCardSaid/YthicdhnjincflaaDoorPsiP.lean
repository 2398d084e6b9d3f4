/- Plain: texts of noughts are no nodes; what a check of such ones comes to. -/
import Derived.Test.YthicdhnjincflaaDoorTriS
namespace Go.Proofs.YthicdhnjincflaaDoor
open Go.RowKit

theorem decode_zero (t : List UInt8) : (decode (0 :: t)).1.isList = false := by
  unfold decode
  split
  · rfl
  · rw [all_step (by simp)]
    have hf : first (0 :: t) = some (Item.mk false [0] [], t) := rfl
    rw [hf]
    dsimp only
    cases all t with
    | none => rfl
    | some l =>
      cases l with
      | nil =>
        dsimp only [Option.map_some]
        split <;> rfl
      | cons y r => rfl
theorem decode_nil : (decode []).1.isList = false := rfl
theorem isNodeP_flat {x : Item} (h : x.isList = false) : isNodeP x = false := by
  obtain ⟨b, t, l⟩ := x
  simp only [Item.isList] at h
  subst h
  rw [isNodeP_eq]; rfl
/-- the first text is no list -/
def Dull (xs : List (List UInt8)) : Prop := ∀ s r, xs = s :: r → (decode s).1.isList = false
theorem under_dull (K : List UInt8 → List UInt8) (f : Nat) (root path s : List UInt8) (r : List (List UInt8)) (h : (decode s).1.isList = false) : underP K (f + 1) (txtI root) path (s :: r) = none := by
  unfold underP
  have hn : nodeOf K (txtI root) (s :: r) = none := by
    unfold nodeOf openP
    rw [if_neg (show ¬ (txtI root).isList = true by intro e; cases e)]
    dsimp only
    by_cases hc : K s = (txtI root).text ∧ (decode s).2 = 0
    · rw [if_pos hc]
      dsimp only
      rw [isNodeP_flat h]; rfl
    · rw [if_neg hc]
  rw [hn]
theorem check_dull (K : List UInt8 → List UInt8) {root key s : List UInt8} {r : List (List UInt8)} (hg : (sizesP root (s :: r) && keyOk key) = true) (h : (decode s).1.isList = false) : checkP K root key (s :: r) = ([], 70) := by
  rw [check_some hg]
  unfold foundP
  rw [under_dull K 128 root (halves key) s r h]
/-- a row of noughts: so many, the last one so long -/
def noughtsP (many long : Nat) : List (List UInt8) := if many = 0 then [] else List.replicate (many - 1) [] ++ [List.replicate long 0]
theorem noughts_dull (many long : Nat) : Dull (noughtsP many long) := fun s r h => by
  unfold noughtsP at h
  split at h
  · cases h
  · obtain ⟨m, rfl⟩ : ∃ m, many = m + 1 := ⟨many - 1, by omega⟩
    cases m with
    | zero =>
      simp only [Nat.zero_add, Nat.sub_self, List.replicate_zero, List.nil_append, List.cons.injEq] at h
      rw [← h.1]
      cases long with
      | zero => exact decode_nil
      | succ k => rw [List.replicate_succ]; exact decode_zero _
    | succ m =>
      rw [Nat.add_sub_cancel, List.replicate_succ, List.cons_append, List.cons.injEq] at h
      rw [← h.1]
      exact decode_nil
end Go.Proofs.YthicdhnjincflaaDoor
