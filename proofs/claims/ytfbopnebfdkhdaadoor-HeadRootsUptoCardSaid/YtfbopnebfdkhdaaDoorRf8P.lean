/- Plain laws of the reference's trees: levels of all leaves, their pairs, and two unlike trees of one root have two unlike texts of one sum. No program is walked here. -/
import Derived.Test.YtfbopnebfdkhdaaDoorSszA
namespace Go.Proofs.YtfbopnebfdkhdaaDoor
open Go.RowKit Go.Lib

/-- a text's sum -/
def shaB (s : ByteArray) : ByteArray := ⟨(shaOf s.data.toList).toArray⟩
theorem toList_append (a b : ByteArray) : (a ++ b).data.toList = a.data.toList ++ b.data.toList := by
  rw [ByteArray.data_append]; simp
theorem shaB_append (a b : ByteArray) : shaB (a ++ b) = hash2 a b := by unfold shaB hash2; rw [toList_append]
/-- the pairs of a level, put together -/
def pairsB (l : List ByteArray) : List ByteArray := (List.range (l.length / 2)).map fun i => l.getD (2 * i) noughtB ++ l.getD (2 * i + 1) noughtB
theorem halfs_pairs (l : List ByteArray) : halfs l = (pairsB l).map shaB := by
  unfold halfs pairsB
  rw [List.map_map]
  refine List.map_congr_left fun i _ => ?_
  simp only [Function.comp]
  rw [shaB_append]
/-- all leaves -/
def padB (d : Nat) (xs : List ByteArray) : List ByteArray := xs ++ List.replicate (2 ^ d - xs.length) noughtB
/-- the level so far up -/
def lvlB (l : List ByteArray) : Nat → List ByteArray
  | 0 => l
  | u + 1 => halfs (lvlB l u)
theorem lvlB_length (l : List ByteArray) (u : Nat) : (lvlB l u).length = l.length / 2 ^ u := by
  induction u with
  | zero => simp [lvlB]
  | succ u ih => rw [lvlB, halfs_length, ih, Nat.pow_succ, Nat.div_div_eq_div_mul]
theorem lvlB_succ (l : List ByteArray) (u : Nat) : lvlB l (u + 1) = lvlB (halfs l) u := by
  induction u with
  | zero => rfl
  | succ u ih => rw [lvlB, ih]; rfl
/-- all texts that are summed up for a tree -/
def sumsB : Nat → List ByteArray → List ByteArray
  | 0, _ => []
  | d + 1, l => pairsB l ++ sumsB d (halfs l)
/-- the same, level by level from the leaves -/
def sumsUp (l : List ByteArray) : Nat → List ByteArray
  | 0 => []
  | u + 1 => sumsUp l u ++ pairsB (lvlB l u)
theorem sumsUp_succ (l : List ByteArray) (u : Nat) : sumsUp l (u + 1) = pairsB l ++ sumsUp (halfs l) u := by
  induction u with
  | zero => simp [sumsUp, lvlB]
  | succ u ih => rw [sumsUp, ih, List.append_assoc, sumsUp, lvlB_succ]
theorem sumsB_eq (d : Nat) (l : List ByteArray) : sumsB d l = sumsUp l d := by
  induction d generalizing l with
  | zero => rfl
  | succ d ih => rw [sumsUp_succ, sumsB, ih]

/-- two texts are unlike and have one sum -/
def HasClash (xs : List ByteArray) : Prop := ∃ s t, s ∈ xs ∧ t ∈ xs ∧ s ≠ t ∧ shaB s = shaB t
theorem HasClash.places {xs : List ByteArray} (h : HasClash xs) : ∃ (i k : Nat) (s t : ByteArray), k < i ∧ xs[i]? = some s ∧ xs[k]? = some t ∧ s ≠ t ∧ shaB s = shaB t := by
  obtain ⟨s, t, hs, ht, hn, he⟩ := h
  obtain ⟨i, hi⟩ := List.mem_iff_getElem?.1 hs
  obtain ⟨k, hk⟩ := List.mem_iff_getElem?.1 ht
  rcases Nat.lt_trichotomy i k with h | h | h
  · exact ⟨k, i, t, s, h, hk, hi, fun e => hn e.symm, he.symm⟩
  · subst h
    rw [hi] at hk
    exact absurd (Option.some.inj hk) hn
  · exact ⟨i, k, s, t, h, hi, hk, hn, he⟩
theorem HasClash.mono {xs ys : List ByteArray} (h : HasClash xs) (hm : ∀ x ∈ xs, x ∈ ys) : HasClash ys := by
  obtain ⟨s, t, hs, ht, r⟩ := h
  exact ⟨s, t, hm s hs, hm t ht, r⟩
theorem append_split {a b c d : ByteArray} (h : a ++ b = c ++ d) (hl : a.size = c.size) : a = c ∧ b = d := by
  have h' : a.data.toList ++ b.data.toList = c.data.toList ++ d.data.toList := by rw [← toList_append, ← toList_append, h]
  obtain ⟨h1, h2⟩ := List.append_inj h' hl
  exact ⟨ByteArray.ext (Array.toList_inj.1 h1), ByteArray.ext (Array.toList_inj.1 h2)⟩
theorem halfs_chunk (l : List ByteArray) : ∀ x ∈ halfs l, x.size = 32 := by
  intro x hx
  unfold halfs at hx
  obtain ⟨i, _, rfl⟩ := List.mem_map.1 hx
  unfold hash2
  simp only [ByteArray.size, List.size_toArray]
  unfold shaOf sumOf St.list
  simp [bytes32]
theorem getD_chunk {l : List ByteArray} (h : ∀ x ∈ l, x.size = 32) (i : Nat) (hi : i < l.length) : (l.getD i noughtB).size = 32 := by
  rw [List.getD_eq_getElem?_getD, List.getElem?_eq_getElem hi]
  exact h _ (List.getElem_mem _)
/-- unlike leaves of one root -/
theorem tree_clash (d : Nat) : ∀ (a b : List ByteArray), a.length = 2 ^ d → b.length = 2 ^ d → (∀ x ∈ a, x.size = 32) → (∀ x ∈ b, x.size = 32) → a ≠ b → lvlB a d = lvlB b d → HasClash (sumsB d a ++ sumsB d b) := by
  induction d with
  | zero => intro a b _ _ _ _ hn he; exact absurd he hn
  | succ d ih =>
    intro a b ha hb hsa hsb hn he
    have h2 : 2 ^ (d + 1) = 2 * 2 ^ d := by rw [Nat.pow_succ]; omega
    by_cases hh : halfs a = halfs b
    · have hex : ∃ i, i < 2 ^ d ∧ a.getD (2 * i) noughtB ++ a.getD (2 * i + 1) noughtB ≠ b.getD (2 * i) noughtB ++ b.getD (2 * i + 1) noughtB := by
        refine Classical.byContradiction fun hc => hn ?_
        have hc' : ∀ i, i < 2 ^ d → a.getD (2 * i) noughtB = b.getD (2 * i) noughtB ∧ a.getD (2 * i + 1) noughtB = b.getD (2 * i + 1) noughtB := by
          intro i hi
          refine append_split (Classical.byContradiction fun h => hc ⟨i, hi, h⟩) ?_
          rw [getD_chunk hsa _ (by omega), getD_chunk hsb _ (by omega)]
        refine List.ext_getElem? fun j => ?_
        by_cases hj : j < 2 * 2 ^ d
        · obtain ⟨p, q⟩ := hc' (j / 2) (by omega)
          rw [List.getElem?_eq_getElem (by omega), List.getElem?_eq_getElem (by omega)]
          rcases (by omega : 2 * (j / 2) = j ∨ 2 * (j / 2) + 1 = j) with e | e
          · rw [e, List.getD_eq_getElem?_getD, List.getD_eq_getElem?_getD, List.getElem?_eq_getElem (by omega), List.getElem?_eq_getElem (by omega)] at p
            exact congrArg some p
          · rw [e, List.getD_eq_getElem?_getD, List.getD_eq_getElem?_getD, List.getElem?_eq_getElem (by omega), List.getElem?_eq_getElem (by omega)] at q
            exact congrArg some q
        · rw [List.getElem?_eq_none (by omega), List.getElem?_eq_none (by omega)]
      obtain ⟨i, hi, hne⟩ := hex
      refine ⟨_, _, List.mem_append_left _ (List.mem_append_left _ (List.mem_map.2 ⟨i, List.mem_range.2 (by omega), rfl⟩)), List.mem_append_right _ (List.mem_append_left _ (List.mem_map.2 ⟨i, List.mem_range.2 (by omega), rfl⟩)), hne, ?_⟩
      have := congrArg (fun l => l[i]?) hh
      simp only [halfs, List.getElem?_map] at this
      rw [List.getElem?_range (by omega), List.getElem?_range (by omega)] at this
      rw [shaB_append, shaB_append]
      exact Option.some.inj this
    · refine (ih (halfs a) (halfs b) (by rw [halfs_length]; omega) (by rw [halfs_length]; omega) (halfs_chunk a) (halfs_chunk b) hh ?_).mono ?_
      · rw [← lvlB_succ, ← lvlB_succ]; exact he
      · intro x hx
        simp only [sumsB, List.mem_append] at hx ⊢
        rcases hx with hx | hx
        · exact .inl (.inr hx)
        · exact .inr (.inr hx)
/-- a level of which the last ones are left out -/
theorem halfs_pad (l : List ByteArray) (z : ByteArray) (m : Nat) (h : l.length ≤ 2 * m) : halfs (l ++ List.replicate (2 * m - l.length) z) = levelUp z l ++ List.replicate (m - (levelUp z l).length) (hash2 z z) := by
  have hup : (levelUp z l).length = (l.length + 1) / 2 := by
    unfold levelUp evened
    rw [halfs_length]
    split <;> (try simp) <;> omega
  have hat : ∀ j, j < 2 * m → (l ++ List.replicate (2 * m - l.length) z).getD j noughtB = l.getD j z := by
    intro j hj
    rw [List.getD_eq_getElem?_getD, List.getD_eq_getElem?_getD]
    by_cases hl : j < l.length
    · rw [List.getElem?_append_left hl, List.getElem?_eq_getElem hl]; rfl
    · rw [List.getElem?_append_right (by omega), List.getElem?_replicate_of_lt (by omega), List.getElem?_eq_none (by omega)]; rfl
  have hev : ∀ j, j < (evened z l).length → (evened z l).getD j noughtB = l.getD j z := by
    intro j hj
    rw [List.getD_eq_getElem?_getD, List.getD_eq_getElem?_getD]
    unfold evened at hj ⊢
    split
    · rename_i h2
      rw [if_pos h2] at hj
      rw [List.length_append] at hj
      by_cases hl : j < l.length
      · rw [List.getElem?_append_left hl, List.getElem?_eq_getElem hl]; rfl
      · rw [List.getElem?_append_right (by omega), List.getElem?_eq_none (l := l) (by omega)]
        rw [show j - l.length = 0 by simp at hj; omega]; rfl
    · rename_i h2
      rw [if_neg h2] at hj
      rw [List.getElem?_eq_getElem hj]; rfl
  have hel : (evened z l).length = 2 * ((l.length + 1) / 2) := by
    unfold evened
    split <;> (try simp) <;> omega
  refine List.ext_getElem? fun i => ?_
  by_cases hi : i < m
  · rw [halfs, List.getElem?_map, List.getElem?_range (by rw [List.length_append, List.length_replicate]; omega), Option.map_some, hat _ (by omega), hat _ (by omega)]
    by_cases hl : i < (levelUp z l).length
    · rw [List.getElem?_append_left hl, levelUp, halfs, List.getElem?_map, List.getElem?_range (by omega), Option.map_some, hev _ (by omega), hev _ (by omega)]
    · rw [List.getElem?_append_right (by omega), List.getElem?_replicate_of_lt (by omega), List.getD_eq_getElem?_getD, List.getD_eq_getElem?_getD, List.getElem?_eq_none (by omega), List.getElem?_eq_none (by omega)]; rfl
  · rw [List.getElem?_eq_none (by rw [halfs_length, List.length_append, List.length_replicate]; omega), List.getElem?_eq_none (by rw [List.length_append, List.length_replicate]; omega)]
/-- the root that the program finds is that of all leaves -/
theorem lvlB_root (d : Nat) : ∀ (l : List ByteArray) (z : ByteArray), l.length ≤ 2 ^ d → lvlB (l ++ List.replicate (2 ^ d - l.length) z) d = [rootB d l z] := by
  induction d with
  | zero =>
    intro l z h
    match l, h with
    | [], _ => rfl
    | [x], _ => rfl
    | x :: y :: r, h => simp at h
  | succ d ih =>
    intro l z h
    have h2 : 2 ^ (d + 1) = 2 * 2 ^ d := by rw [Nat.pow_succ]; omega
    have hup : (levelUp z l).length = (l.length + 1) / 2 := by
      unfold levelUp evened
      rw [halfs_length]
      split <;> (try simp) <;> omega
    rw [lvlB_succ, h2, halfs_pad l z _ (by omega), ih _ _ (by omega)]
    rfl
theorem padB_root (d : Nat) (xs : List ByteArray) (h : xs.length ≤ 2 ^ d) : lvlB (padB d xs) d = [rootB d xs noughtB] := lvlB_root d xs noughtB h
theorem padB_length (d : Nat) (xs : List ByteArray) (h : xs.length ≤ 2 ^ d) : (padB d xs).length = 2 ^ d := by
  unfold padB; rw [List.length_append, List.length_replicate]; omega
theorem padB_chunk (d : Nat) (xs : List ByteArray) (h : ∀ x ∈ xs, x.size = 32) : ∀ x ∈ padB d xs, x.size = 32 := by
  intro x hx
  unfold padB at hx
  rcases List.mem_append.1 hx with hx | hx
  · exact h x hx
  · rw [(List.mem_replicate.1 hx).2]; simp [noughtB, ByteArray.size]
theorem padB_inj {d : Nat} {xs ys : List ByteArray} (hl : xs.length = ys.length) (h : padB d xs = padB d ys) : xs = ys := (List.append_inj h hl).1
/-- unlike chunks of one root have two unlike texts of one sum -/
theorem chunks_clash (d : Nat) (xs ys : List ByteArray) (hl : xs.length = ys.length) (h : xs.length ≤ 2 ^ d) (hx : ∀ x ∈ xs, x.size = 32) (hy : ∀ x ∈ ys, x.size = 32) (hn : xs ≠ ys) (hr : rootB d xs noughtB = rootB d ys noughtB) : HasClash (sumsB d (padB d xs) ++ sumsB d (padB d ys)) := by
  refine tree_clash d _ _ (padB_length d xs h) (padB_length d ys (by omega)) (padB_chunk d xs hx) (padB_chunk d ys hy) (fun e => hn (padB_inj hl e)) ?_
  rw [padB_root d xs h, padB_root d ys (by omega), hr]
end Go.Proofs.YtfbopnebfdkhdaaDoor
