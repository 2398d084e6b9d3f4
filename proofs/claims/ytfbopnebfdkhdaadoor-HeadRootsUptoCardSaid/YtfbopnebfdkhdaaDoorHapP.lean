/- Plain law of HeadApart: unlike headers of one root have two unlike texts of one sum. No program is walked here. -/
import Derived.Test.YtfbopnebfdkhdaaDoorRf8P
import Derived.Test.YtfbopnebfdkhdaaDoorHedA
namespace Go.Proofs.YtfbopnebfdkhdaaDoor
open Go.RowKit Go.Lib

theorem numL_inj {n m : Nat} (hn : n < 18446744073709551616) (hm : m < 18446744073709551616) (h : numL n = numL m) : n = m := by
  have hk : ∀ k, k < 8 → n / 256 ^ k % 256 = m / 256 ^ k % 256 := fun k hk => by
    have := congrArg (fun l => l[k]?) h
    simp only [numL_at n k hk, numL_at m k hk] at this
    have := congrArg UInt8.toNat (Option.some.inj this)
    rwa [UInt8.toNat_ofNat', UInt8.toNat_ofNat'] at this
  have h0 := hk 0 (by omega)
  have h1 := hk 1 (by omega)
  have h2 := hk 2 (by omega)
  have h3 := hk 3 (by omega)
  have h4 := hk 4 (by omega)
  have h5 := hk 5 (by omega)
  have h6 := hk 6 (by omega)
  have h7 := hk 7 (by omega)
  simp only [Nat.reducePow, Nat.div_one] at h0 h1 h2 h3 h4 h5 h6 h7
  omega
theorem numB_inj {n m : Nat} (hn : n < 18446744073709551616) (hm : m < 18446744073709551616) (h : (⟨(numL n).toArray⟩ : ByteArray) = ⟨(numL m).toArray⟩) : n = m := by
  refine numL_inj hn hm ?_
  have := congrArg (fun b : ByteArray => b.data.toList) h
  simpa using this
theorem rightB_chunks {xs : List ByteArray} {d : Nat} (h : rightB xs d = true) : xs.length ≤ 2 ^ d ∧ ∀ x ∈ xs, x.size = 32 := by
  unfold rightB at h
  rw [Bool.and_eq_true, Bool.not_eq_true', List.any_eq_false] at h
  refine ⟨of_decide_eq_true h.1, fun x hx => ?_⟩
  have := h.2 x hx
  unfold noChunk at this
  simpa using this
/-- unlike headers of one root -/
theorem hdr_clash {n m n' m' : Nat} {a b c a' b' c' : ByteArray} (hn : n < 18446744073709551616) (hm : m < 18446744073709551616) (hn' : n' < 18446744073709551616) (hm' : m' < 18446744073709551616)
    (h : rightB (hdrChunks n m a b c) 3 = true) (h' : rightB (hdrChunks n' m' a' b' c') 3 = true) (hne : ¬ (n = n' ∧ m = m' ∧ a = a' ∧ b = b' ∧ c = c'))
    (hr : rootB 3 (hdrChunks n m a b c) noughtB = rootB 3 (hdrChunks n' m' a' b' c') noughtB) :
    HasClash (sumsB 3 (padB 3 (hdrChunks n m a b c)) ++ sumsB 3 (padB 3 (hdrChunks n' m' a' b' c'))) := by
  have h1 := rightB_chunks h
  have h2 := rightB_chunks h'
  refine chunks_clash 3 _ _ rfl h1.1 h1.2 h2.2 (fun e => hne ?_) hr
  unfold hdrChunks at e
  simp only [List.cons.injEq, and_true] at e
  obtain ⟨e1, e2, e3, e4, e5⟩ := e
  exact ⟨numB_inj hn hn' e1, numB_inj hm hm' e2, e3, e4, e5⟩
/-- unlike accounts of what a block did -/
theorem exec_ne {a b a' b' : ByteArray} {n n' : Nat} (hn : n < 18446744073709551616) (hn' : n' < 18446744073709551616) (hne : ¬ (a = a' ∧ b = b' ∧ n = n')) : [a, b, ⟨(numL n).toArray⟩] ≠ [a', b', (⟨(numL n').toArray⟩ : ByteArray)] := by
  intro e
  simp only [List.cons.injEq, and_true] at e
  obtain ⟨e1, e2, e3⟩ := e
  exact hne ⟨e1, e2, numB_inj hn hn' e3⟩
end Go.Proofs.YtfbopnebfdkhdaaDoor
