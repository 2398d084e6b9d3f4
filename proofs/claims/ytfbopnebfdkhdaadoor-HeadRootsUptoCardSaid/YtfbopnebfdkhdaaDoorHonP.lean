/- Plain law of HeadOne. No program is walked here. -/
import Derived.Test.YtfbopnebfdkhdaaDoorRf8E
import Derived.Test.YtfbopnebfdkhdaaDoorHedE
import Derived.Test.YtfbopnebfdkhdaaDoorHapL
namespace Go.Proofs.YtfbopnebfdkhdaaDoor
open Go.RowKit Go.Lib

theorem texts_eq {x y : ByteArray} (h : (x.toList == y.toList) = true) : x = y := by
  have e := eq_of_beq h
  rw [ByteArray.toList_eq, ByteArray.toList_eq] at e
  exact ByteArray.ext (Array.toList_inj.1 e)
/-- the texts of a way of two -/
def wayB (leaf s0 s1 : ByteArray) : List ByteArray := [leaf ++ s0, s1 ++ shaB (leaf ++ s0)]
theorem check2_parts {leaf s0 s1 root : ByteArray} (h : check2 leaf s0 s1 root = true) : leaf.size = 32 ∧ s0.size = 32 ∧ s1.size = 32 ∧ shaB (s1 ++ shaB (leaf ++ s0)) = root := by
  unfold check2 at h
  simp only [Bool.and_eq_true, decide_eq_true_eq] at h
  obtain ⟨h1, h2, h3, h4, h5⟩ := h
  refine ⟨h1, h3, h4, ?_⟩
  rw [shaB_append, shaB_append]
  exact texts_eq h5
theorem way_clash {r s a0 a1 b0 b1 c : ByteArray} (h1 : check2 r a0 a1 c = true) (h2 : check2 s b0 b1 c = true) (hn : r ≠ s) : HasClash (wayB r a0 a1 ++ wayB s b0 b1) := by
  obtain ⟨p1, p2, p3, p4⟩ := check2_parts h1
  obtain ⟨q1, q2, q3, q4⟩ := check2_parts h2
  unfold wayB
  by_cases h : a1 ++ shaB (r ++ a0) = b1 ++ shaB (s ++ b0)
  · obtain ⟨_, g⟩ := append_split h (by rw [p3, q3])
    refine ⟨r ++ a0, s ++ b0, by simp, by simp, fun e => hn (append_split e (by rw [p1, q1])).1, g⟩
  · exact ⟨_, _, by simp, by simp, h, by rw [p4, q4]⟩
theorem one_clash {d e d' e' a0 a1 b0 b1 c : ByteArray} {k k' : Nat} (hk : k < 18446744073709551616) (hk' : k' < 18446744073709551616)
    (g1 : rightB (execChunks d e k) 2 = true) (g2 : rightB (execChunks d' e' k') 2 = true)
    (h1 : check2 (rootB 2 (execChunks d e k) noughtB) a0 a1 c = true) (h2 : check2 (rootB 2 (execChunks d' e' k') noughtB) b0 b1 c = true) (hne : ¬ (d = d' ∧ e = e' ∧ k = k')) :
    HasClash ((wayB (rootB 2 (execChunks d e k) noughtB) a0 a1 ++ wayB (rootB 2 (execChunks d' e' k') noughtB) b0 b1) ++ (sumsUp (padB 2 (execChunks d e k)) 2 ++ sumsUp (padB 2 (execChunks d' e' k')) 2)) := by
  by_cases hr : rootB 2 (execChunks d e k) noughtB = rootB 2 (execChunks d' e' k') noughtB
  · refine (chunks_clash 2 (execChunks d e k) (execChunks d' e' k') rfl (rightB_chunks g1).1 (rightB_chunks g1).2 (rightB_chunks g2).2 (exec_ne hk hk' hne) hr).mono ?_
    intro x hx
    rw [sumsB_eq, sumsB_eq] at hx
    exact List.mem_append_right _ hx
  · exact (way_clash h1 h2 hr).mono (fun x hx => List.mem_append_left _ hx)
theorem holdsB_parts {n m : Nat} {a b c d e : ByteArray} {k : Nat} {br : List ByteArray} (h : holdsB n m a b c d e k br = true) :
    rightB (execChunks d e k) 2 = true ∧ ∃ s0 s1, br = [s0, s1] ∧ check2 (rootB 2 (execChunks d e k) noughtB) s0 s1 c = true := by
  unfold holdsB at h
  simp only [Bool.and_eq_true, decide_eq_true_eq] at h
  obtain ⟨_, h2, h3, h4⟩ := h
  match br, h3, h4 with
  | [s0, s1], _, h4 => exact ⟨h2, s0, s1, rfl, h4⟩
theorem exec_cases (a b : ByteArray) (n : Nat) (a' b' : ByteArray) (n' : Nat) :
    ((a.toList == a'.toList) = true ∧ (b.toList == b'.toList) = true ∧ ((n : Int) == (n' : Int)) = true) ∨
    (¬ (a = a' ∧ b = b' ∧ n = n') ∧ ((a.toList == a'.toList) = false ∨ ((a.toList == a'.toList) = true ∧ (b.toList == b'.toList) = false) ∨ ((a.toList == a'.toList) = true ∧ (b.toList == b'.toList) = true ∧ ((n : Int) == (n' : Int)) = false))) := by
  by_cases k0 : a = a'
  · by_cases k1 : b = b'
    · by_cases k2 : n = n'
      · exact .inl ⟨eq_texts k0, eq_texts k1, eq_nat k2⟩
      · exact .inr ⟨fun h => k2 h.2.2, .inr (.inr ⟨eq_texts k0, eq_texts k1, neq_nat k2⟩)⟩
    · exact .inr ⟨fun h => k1 h.2.1, .inr (.inl ⟨eq_texts k0, neq_texts k1⟩)⟩
  · exact .inr ⟨fun h => k0 h.1, .inl (neq_texts k0)⟩
end Go.Proofs.YtfbopnebfdkhdaaDoor
