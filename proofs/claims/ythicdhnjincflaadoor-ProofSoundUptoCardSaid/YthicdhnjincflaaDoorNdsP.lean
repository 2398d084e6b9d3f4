/- Plain: how many nodes pairs have, and how long they are; the first pairs, shortened. -/
import Derived.Test.YthicdhnjincflaaDoorTriS
namespace Go.Proofs.YthicdhnjincflaaDoor
open Go.RowKit

theorem filter_split {α : Type} (p r s : α → Bool) (h : ∀ q, p q = true → s q = true ∧ r q = false) (h2 : ∀ q, r q = true → s q = true) (l : List α) : (l.filter p).length + (l.filter r).length ≤ (l.filter s).length := by
  induction l with
  | nil => simp
  | cons q t ih =>
    simp only [List.filter_cons]
    cases hp : p q with
    | true =>
      obtain ⟨h3, h4⟩ := h q hp
      rw [h3, h4]
      simp
      omega
    | false =>
      cases hr : r q with
      | true =>
        rw [h2 q hr]
        simp
        omega
      | false =>
        cases hs : s q <;> simp <;> omega
theorem having_filter (ps : List PairD) (d : Nat) (h : UInt8) : havingP ps d h = ps.filter fun q => (pth q)[d]? == some h := rfl
theorem having_sum (ps : List PairD) (d n : Nat) (hn : n ≤ 256) : ((List.range n).map fun h => (havingP ps d (UInt8.ofNat h)).length).sum ≤ (ps.filter fun q => match (pth q)[d]? with | some h => decide (h.toNat < n) | none => false).length := by
  induction n with
  | zero => simp
  | succ n ih =>
    have hi := ih (by omega)
    rw [List.range_succ, List.map_append, List.sum_append]
    simp only [List.map_cons, List.map_nil, List.sum_cons, List.sum_nil, Nat.add_zero]
    rw [having_filter]
    have hsp := filter_split (fun q : PairD => match (pth q)[d]? with | some h => decide (h.toNat < n) | none => false) (fun q : PairD => (pth q)[d]? == some (UInt8.ofNat n)) (fun q : PairD => match (pth q)[d]? with | some h => decide (h.toNat < n + 1) | none => false)
      (fun q hq => by
        cases hx : (pth q)[d]? with
        | none => rw [hx] at hq; cases hq
        | some h =>
          rw [hx] at hq
          simp only [decide_eq_true_eq] at hq ⊢
          refine ⟨by omega, ?_⟩
          rw [beq_eq_false_iff_ne]
          intro e
          have e := Option.some.inj e
          subst e
          rw [UInt8.toNat_ofNat'] at hq
          omega)
      (fun q hq => by
        have hq := eq_of_beq hq
        rw [hq]
        simp only [decide_eq_true_eq]
        rw [UInt8.toNat_ofNat']
        omega) ps
    omega
section
variable {K : List UInt8 → List UInt8}
theorem sum_le {α : Type} (l : List α) (f g : α → Nat) (h : ∀ a ∈ l, f a ≤ g a) : (l.map f).sum ≤ (l.map g).sum := by
  induction l with
  | nil => simp
  | cons a t ih =>
    simp only [List.map_cons, List.sum_cons]
    have h1 := h a List.mem_cons_self
    have h2 := ih (fun b hb => h b (List.mem_cons_of_mem _ hb))
    omega
theorem sum_mul {α : Type} (l : List α) (f : α → Nat) (k : Nat) : (l.map fun a => f a * k).sum = (l.map f).sum * k := by
  induction l with
  | nil => simp
  | cons a t ih => simp only [List.map_cons, List.sum_cons, ih, Nat.add_mul]
theorem nodes_len (f : Nat) : ∀ (ps : List PairD) (d : Nat), ps ≠ [] → (nodesP K f ps d).length ≤ ps.length * f := by
  induction f with
  | zero => intro ps d _; unfold nodesP; simp
  | succ f ih =>
    intro ps d hne
    rw [nodes_tail, List.length_append]
    have h1 := told_one (K := K) (f + 1) ps d
    have hp : 1 ≤ ps.length := by cases ps with
      | nil => exact absurd rfl hne
      | cons a t => simp
    have h2 : (nodesTail K f ps d).length ≤ ps.length * f := by
      match ps, hne with
      | [], hne => exact absurd rfl hne
      | [q], _ => simp [nodesTail]
      | q :: q2 :: r, _ =>
        unfold nodesTail
        dsimp only
        split
        · exact ih _ _ (by simp)
        · rw [List.length_flatMap]
          have h3 := sum_le (List.range 16) (fun h => (match havingP (q :: q2 :: r) d (UInt8.ofNat h) with
            | [] => []
            | x :: m => nodesP K f (x :: m) (d + 1)).length) (fun h => (havingP (q :: q2 :: r) d (UInt8.ofNat h)).length * f) (fun h _ => by
              cases hm : havingP (q :: q2 :: r) d (UInt8.ofNat h) with
              | nil => simp
              | cons x m => exact ih _ _ (by simp))
          have h4 := having_sum (q :: q2 :: r) d 16 (by omega)
          have h5 := List.length_filter_le (fun q : PairD => match (pth q)[d]? with | some h => decide (h.toNat < 16) | none => false) (q :: q2 :: r)
          rw [sum_mul] at h3
          refine Nat.le_trans h3 (Nat.mul_le_mul_right f (Nat.le_trans h4 h5))
    rw [Nat.mul_succ]
    omega
theorem nodes_short (hK : ∀ s, (K s).length = 32) (f : Nat) : ∀ (ps : List PairD) (d : Nat), Valid ps d → Fair ps → 129 ≤ d + f → ∀ s ∈ nodesP K f ps d, s.length ≤ 20000 := by
  induction f with
  | zero => intro ps d hv; have := valid_le hv; omega
  | succ f ih =>
    intro ps d hv hr hf s hs
    rw [nodes_tail] at hs
    rcases List.mem_append.1 hs with hs | hs
    · exact told_len hK (f + 1) ps d hv hr hf s hs
    · match ps, hv, hr, hs with
      | [], hv, _, _ => exact absurd rfl hv.1
      | [q], _, _, hs => simp [nodesTail] at hs
      | q :: q2 :: r, hv, hr, hs =>
        unfold nodesTail at hs
        dsimp only at hs
        split at hs
        · exact ih _ _ (valid_ext hv) hr (by omega) s hs
        · obtain ⟨h, _, hs⟩ := List.mem_flatMap.1 hs
          cases hm : havingP (q :: q2 :: r) d (UInt8.ofNat h) with
          | nil => rw [hm] at hs; cases hs
          | cons x m =>
            rw [hm] at hs
            exact ih _ _ (valid_having hv hm) (fair_having hr hm) (by omega) s hs
end
/-- the first thirty pairs, of values of at most a hundred bytes -/
def fewP (n : Nat) (ps : List PairD) : List PairD := (ps.take n).map fun q => (q.1, q.2.take 100)
theorem fewP_len (n : Nat) (ps : List PairD) : (fewP n ps).length ≤ n := by unfold fewP; rw [List.length_map, List.length_take]; omega
theorem fewP_take {ps : List PairD} {n k : Nat} {q : PairD} (hs : ps[k]? = some q) (hk : k < n) : (fewP n ps).take (k + 1) = (fewP n ps).take k ++ [(q.1, q.2.take 100)] := by
  rw [List.take_add_one]
  congr 1
  unfold fewP
  rw [List.getElem?_map, List.getElem?_take, if_pos hk, hs]
  rfl
end Go.Proofs.YthicdhnjincflaaDoor
