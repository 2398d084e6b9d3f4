/- What the walks take: PaiM. -/
import Derived.Test.YthicdhnjincflaaGreatDoorU0
import Derived.Test.YthicdhnjincflaaGreatDoorU4
import Derived.Test.YthicdhnjincflaaGreatDoorU14
import Derived.Test.YthicdhnjincflaaGreatDoorProg
import Derived.Maps.AppendAt
import Derived.Deep.AppendLies
import Derived.Outline
namespace Go.Proofs.YthicdhnjincflaaGreatDoor
open Go.RowKit Go.Shelf Go.Lib
def Pairs (w : World) (v : Value) (ps : List PairD) : Prop :=
  ∃ p c, v = .slice p ps.length c ∧ ps.length ≤ c ∧ (ps = [] ∨ ∃ bk o, p = some ⟨bk, o, none⟩ ∧ bk < w.heap.size ∧ ∀ (j : Nat) q, ps[j]? = some q → w.cell? ⟨bk, o + j * 2, none⟩ = some (.string ⟨q.1.toArray⟩) ∧ w.cell? ⟨bk, o + j * 2 + 1, none⟩ = some (.string ⟨q.2.toArray⟩))
theorem Pairs.below {n : Nat} {w w' : World} {v : Value} {ps : List PairD} (h : Pairs w v ps) (hb : Below n w w') (hn : w.heap.size ≤ n) : Pairs w' v ps := by
  obtain ⟨p, c, hv, hc, h⟩ := h
  refine ⟨p, c, hv, hc, ?_⟩
  rcases h with h | ⟨bk, o, h1, h3, h4⟩
  · exact .inl h
  · exact .inr ⟨bk, o, h1, Nat.lt_of_lt_of_le h3 hb.size, fun j q hq => ⟨(hb.cell (p := ⟨bk, o + j * 2, none⟩) (Nat.lt_of_lt_of_le h3 hn)).trans (h4 j q hq).1, (hb.cell (p := ⟨bk, o + j * 2 + 1, none⟩) (Nat.lt_of_lt_of_le h3 hn)).trans (h4 j q hq).2⟩⟩
theorem Pairs.after {w w' : World} {v : Value} {ps : List PairD} (h : Pairs w v ps) (hb : Below w.heap.size w w') : Pairs w' v ps := h.below hb (Nat.le_refl _)
theorem Pairs.nil (w : World) : Pairs w (.slice none 0 0) [] := ⟨none, 0, rfl, Nat.le_refl _, .inl rfl⟩
theorem Pairs.form {w : World} {v : Value} {ps : List PairD} (h : Pairs w v ps) : ∃ p c, v = .slice p ps.length c := by
  obtain ⟨p, c, hv, _⟩ := h
  exact ⟨p, c, hv⟩
theorem Pairs.at {w : World} {p : Option Addr} {n c : Nat} {ps : List PairD} (h : Pairs w (.slice p n c) ps) (hn : ps ≠ []) :
    n = ps.length ∧ ∃ bk o, p = some ⟨bk, o, none⟩ ∧ bk < w.heap.size ∧ ∀ (j : Nat) q, ps[j]? = some q → w.cell? ⟨bk, o + j * 2, none⟩ = some (.string ⟨q.1.toArray⟩) ∧ w.cell? ⟨bk, o + j * 2 + 1, none⟩ = some (.string ⟨q.2.toArray⟩) := by
  obtain ⟨p', c', hv, _, h⟩ := h
  cases hv
  rcases h with h | h
  · exact absurd h hn
  · exact ⟨rfl, h⟩
theorem Pairs.len {w : World} {p : Option Addr} {n c : Nat} {ps : List PairD} (h : Pairs w (.slice p n c) ps) : n = ps.length := by
  obtain ⟨p', c', hv, _⟩ := h
  cases hv; rfl
def pairCells (l : List PairD) : List Value := l.flatMap fun q => [.string ⟨q.1.toArray⟩, .string ⟨q.2.toArray⟩]
theorem pairCells_length (l : List PairD) : (pairCells l).length = l.length * 2 := by
  induction l with
  | nil => rfl
  | cons q r ih => simp only [pairCells, List.flatMap_cons, List.length_append] at *; rw [ih]; simp; omega
theorem pairCells_append (l r : List PairD) : pairCells (l ++ r) = pairCells l ++ pairCells r := by simp [pairCells]
theorem pairCells_at (l : List PairD) (i j : Nat) (q : PairD) (h : l[i]? = some q) (hj : j < 2) : (pairCells l)[i * 2 + j]? = [Value.string ⟨q.1.toArray⟩, .string ⟨q.2.toArray⟩][j]? := by
  induction l generalizing i with
  | nil => cases h
  | cons a r ih =>
    cases i with
    | zero =>
      cases h
      simp only [pairCells, List.flatMap_cons]
      rw [List.getElem?_append_left (by simp; omega)]
      congr 1
      omega
    | succ i =>
      have h' : r[i]? = some q := h
      have := ih i h'
      simp only [pairCells, List.flatMap_cons] at *
      rw [List.getElem?_append_right (by simp; omega)]
      rw [show (i + 1) * 2 + j - [Value.string ⟨a.1.toArray⟩, .string ⟨a.2.toArray⟩].length = i * 2 + j from by simp; omega]
      exact this
theorem infoPair : (Tryz.prog.info? 40).map (fun i => (i.zero, i.size, i.bytes)) = some (some (.agg #[.string ⟨#[]⟩, .string ⟨#[]⟩]), 2, 32) := by kernel_rfl
def OwnP (base : Nat) (w : World) (v : Value) (l : List PairD) : Prop := w.ownsRow base 40 2 v l.length (pairCells l)
theorem OwnP.nil (base : Nat) (w : World) : OwnP base w (.slice none 0 0) [] := World.ownsRow_nil _ _ _ _
theorem OwnP.lt {base : Nat} {w : World} {v : Value} {l : List PairD} (h : OwnP base w v l) : ∀ k, v.ownBlock = some k → base ≤ k ∧ k < w.heap.size := World.ownsRow.lt h
theorem OwnP.form {base : Nat} {w : World} {v : Value} {l : List PairD} (h : OwnP base w v l) : ∃ p c, v = .slice p l.length c := by
  obtain ⟨_, ⟨rfl, h0⟩ | ⟨g, cap, cur, rfl, _⟩⟩ := h
  · exact ⟨none, 0, by rw [h0]⟩
  · exact ⟨_, _, rfl⟩
theorem OwnP.of_block {base : Nat} {w w' : World} {v : Value} {l : List PairD} (h : OwnP base w v l) (hb : ∀ k, v.ownBlock = some k → w'.heap[k]? = w.heap[k]?) : OwnP base w' v l := by
  obtain ⟨h1, h2⟩ := h
  refine ⟨h1, ?_⟩
  rcases h2 with h2 | ⟨g, cap, cur, hv, hg, hh, r⟩
  · exact .inl h2
  · exact .inr ⟨g, cap, cur, hv, hg, by rw [hb g (by rw [hv]; rfl)]; exact hh, r⟩
theorem OwnP.after {base : Nat} {w w' : World} {v : Value} {l : List PairD} (h : OwnP base w v l) (hb : Below w.heap.size w w') : OwnP base w' v l := h.of_block fun k e => hb.block k (h.lt k e).2
theorem OwnP.alloc {base : Nat} {w : World} {v : Value} {l : List PairD} (h : OwnP base w v l) (o : Obj) : OwnP base (w.alloc o) v l := h.after (laid1 w o)
theorem OwnP.pairs {base : Nat} {w : World} {v : Value} {l : List PairD} (h : OwnP base w v l) : Pairs w v l := by
  have h1 := h
  obtain ⟨_, ⟨rfl, hn⟩ | ⟨g, cap, cur, rfl, hb, hg, hcap, _⟩⟩ := h1
  · obtain rfl : l = [] := List.length_eq_zero_iff.1 hn
    exact Pairs.nil _
  · refine ⟨some ⟨g, 0, none⟩, cap, rfl, hcap, .inr ⟨g, 0, rfl, (Array.getElem?_eq_some_iff.1 hg).1, fun i q hq => ?_⟩⟩
    have hi := (List.getElem?_eq_some_iff.1 hq).1
    have hc := fun j (hj : j < 2) => World.ownsRow.cellAt h (i * 2 + j) (by omega)
    rw [Nat.zero_add]
    refine ⟨?_, ?_⟩
    · have := hc 0 (by omega); rw [pairCells_at _ i 0 q hq (by omega)] at this; simpa using this
    · have := hc 1 (by omega); rw [pairCells_at _ i 1 q hq (by omega)] at this; simpa using this
theorem run_appendP {base : Nat} {w : World} {v : Value} {l : List PairD} (hown : OwnP base w v l) (ad : Addr) (c : Nat) (q : PairD)
    (hnews : ∀ j u, (pairCells [q])[j]? = some u → w.cell? (ad.add j) = some u) (h63 : l.length ≤ 1099511627776) (hbase : base ≤ w.heap.size) (ty : TypeId) :
    ∃ v' w', (Builtin.append_ #[22, 22] ty #[v, .slice (some ad) 1 c]).run Tryz.prog w = .ok v' w' ∧ OwnP base w' v' (l ++ [q]) ∧ w.grownBy w' v.ownBlock ∧ (v'.ownBlock = v.ownBlock ∨ v'.ownBlock = some w.heap.size) := by
  obtain ⟨i0, hi0, hz0, hz1, hz2⟩ := info_parts infoPair
  obtain ⟨v', w', hr, h1, h2, _, h3⟩ := run_append_own_at (P := Tryz.prog) w base 22 ty 40 i0 _ 2 32 Tryz.underlying22 hi0 hz0 hz1 hz2 rfl (by omega) v l.length (pairCells l) hown ad 1 c (pairCells [q]) (by rw [pairCells_length]; simp) hnews
    (fun u hu => by simp only [pairCells, List.flatMap_cons, List.flatMap_nil, List.append_nil, List.mem_cons, List.not_mem_nil, or_false] at hu; rcases hu with rfl | rfl <;> rfl) (by unfold maxLen; omega) (by omega) hbase
  refine ⟨v', w', hr, ?_, h2, h3⟩
  unfold OwnP
  rw [pairCells_append, List.length_append]
  exact h1
theorem wpList_appendP {ops : Array Oper} {rest : List Oper} {o : Oper} {a : Act} {w : World} {Q : Exit → Act → World → Prop} (hgd : o.guard = none) (s x : Operand)
    (ho : o.op = .call { callee := .builtin .append, args := #[s, x], argTypes := #[22, 22] })
    (base : Nat) (v : Value) (l : List PairD) (hs : a.eval s = v) (hown : OwnP base w v l) (ad : Addr) (c : Nat) (q : PairD) (hx : a.eval x = .slice (some ad) 1 c)
    (hnews : ∀ j u, (pairCells [q])[j]? = some u → w.cell? (ad.add j) = some u) (h63 : l.length ≤ 1099511627776) (hbase : base ≤ w.heap.size)
    (hK : ∀ v' w', OwnP base w' v' (l ++ [q]) → w.grownBy w' v.ownBlock → (v'.ownBlock = v.ownBlock ∨ v'.ownBlock = some w.heap.size) → wpList Tryz.prog ops Q rest (a.put o.dst v') w') : wpList Tryz.prog ops Q (o :: rest) a w := by
  obtain ⟨v', w', hrun, r1, r2, r3⟩ := run_appendP hown ad c q hnews h63 hbase o.type
  refine wpList_plain hgd fun _ hK' => ?_
  unfold Oper.wp
  simp [execOp, ho, resolve, invoke, builtin, hs, hx, hrun, Result.andThen]
  exact hK' _ _ (hK v' w' r1 r2 r3)
end Go.Proofs.YthicdhnjincflaaGreatDoor
