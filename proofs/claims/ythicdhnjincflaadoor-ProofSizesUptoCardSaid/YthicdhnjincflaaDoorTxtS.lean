/- Texts in memory; a row of texts that the call owns: append, stores, what it reads as. -/
import Derived.Test.YthicdhnjincflaaDoorDecB
namespace Go.Proofs.YthicdhnjincflaaDoor
open Go.RowKit Go.Shelf Go.Lib

/-- texts in memory -/
def Strs (w : World) (v : Value) (xs : List ByteArray) : Prop :=
  ∃ p c, v = .slice p xs.length c ∧ xs.length ≤ c ∧ (xs = [] ∨ ∃ bk o, p = some ⟨bk, o, none⟩ ∧ bk < w.heap.size ∧ ∀ (j : Nat) x, xs[j]? = some x → w.cell? ⟨bk, o + j, none⟩ = some (.string x))
theorem Strs.below {w w' : World} {v : Value} {xs : List ByteArray} (h : Strs w v xs) (hb : Below w.heap.size w w') : Strs w' v xs := by
  obtain ⟨p, c, hv, hc, h⟩ := h
  refine ⟨p, c, hv, hc, ?_⟩
  rcases h with h | ⟨bk, o, hp, hk, h⟩
  · exact .inl h
  · exact .inr ⟨bk, o, hp, Nat.lt_of_lt_of_le hk hb.size, fun j x hx => (hb.cell (p := ⟨bk, o + j, none⟩) hk).trans (h j x hx)⟩
theorem infoStr : (Tryd.prog.info? 9).map (fun i => (i.zero, i.size, i.bytes)) = some (some (.string ⟨#[]⟩), 1, 16) := by kernel_rfl
/-- the texts l lie in a row that the call owns, from block base on; v is the slice -/
def OwnS (base : Nat) (w : World) (v : Value) (l : List ByteArray) : Prop := w.ownsRow base 9 1 v l.length (l.map Value.string)
theorem OwnS.nil (base : Nat) (w : World) : OwnS base w (.slice none 0 0) [] := World.ownsRow_nil _ _ _ _
theorem OwnS.form {base : Nat} {w : World} {v : Value} {l : List ByteArray} (h : OwnS base w v l) : ∃ p c, v = .slice p l.length c := by
  obtain ⟨_, ⟨rfl, h0⟩ | ⟨g, cap, cur, rfl, _⟩⟩ := h
  · exact ⟨none, 0, by rw [h0]⟩
  · exact ⟨_, _, rfl⟩
theorem OwnS.lt {base : Nat} {w : World} {v : Value} {l : List ByteArray} (h : OwnS base w v l) : ∀ k, v.ownBlock = some k → base ≤ k ∧ k < w.heap.size := World.ownsRow.lt h
theorem OwnS.kept {base : Nat} {w w' : World} {row : Option Nat} {v : Value} {l : List ByteArray} (h : OwnS base w v l) (hg : w.grownBy w' row) (hne : v.ownBlock = none ∨ v.ownBlock ≠ row) : OwnS base w' v l := World.ownsRow.kept h hg hne
theorem OwnS.of_block {base : Nat} {w w' : World} {v : Value} {l : List ByteArray} (h : OwnS base w v l) (hb : ∀ k, v.ownBlock = some k → w'.heap[k]? = w.heap[k]?) : OwnS base w' v l := by
  obtain ⟨h1, h2⟩ := h
  refine ⟨h1, ?_⟩
  rcases h2 with h2 | ⟨g, cap, cur, hv, hg, hh, r⟩
  · exact .inl h2
  · exact .inr ⟨g, cap, cur, hv, hg, by rw [hb g (by rw [hv]; rfl)]; exact hh, r⟩
/-- a row's block holds cells -/
theorem OwnS.cellsAt {base : Nat} {w : World} {v : Value} {l : List ByteArray} (h : OwnS base w v l) {k : Nat} (hk : v.ownBlock = some k) : ∃ o : Obj, w.heap[k]? = some o ∧ o.isCells = true := by
  obtain ⟨_, ⟨rfl, _⟩ | ⟨g, cap, cur, rfl, _, hg, _⟩⟩ := h
  · cases hk
  · cases hk; exact ⟨_, hg, rfl⟩
theorem OwnS.opened {base : Nat} {w : World} {v : Value} {l : List ByteArray} (h : OwnS base w v l) (h0 : 0 < l.length) :
    ∃ g c, v = .slice (some ⟨g, 0, none⟩) l.length c ∧ base ≤ g ∧ g < w.heap.size ∧ (∀ j x, l[j]? = some x → w.cell? ⟨g, j, none⟩ = some (.string x)) ∧ (∀ j, w.frozen? ⟨g, j, none⟩ = false) := by
  have h' := h
  obtain ⟨_, ⟨_, hn⟩ | ⟨g, cap, cur, rfl, hb, hg, _⟩⟩ := h
  · omega
  · refine ⟨g, cap, rfl, hb, (Array.getElem?_eq_some_iff.1 hg).1, fun j x hj => ?_, fun j => World.ownsRow.frozenAt h' j⟩
    have hl := (List.getElem?_eq_some_iff.1 hj).1
    rw [World.ownsRow.cellAt h' j (by omega), List.getElem?_map, hj]; rfl
theorem OwnS.cap {base : Nat} {w : World} {p : Option Addr} {n c : Nat} {l : List ByteArray} (h : OwnS base w (.slice p n c) l) : l.length ≤ c := by
  obtain ⟨_, ⟨e, h0⟩ | ⟨g, cap, cur, e, hb, hg, h1, h2⟩⟩ := h
  · omega
  · cases e; assumption
theorem OwnS.strs {base : Nat} {w : World} {v : Value} {l : List ByteArray} (h : OwnS base w v l) : Strs w v l := by
  have hf := h.form
  obtain ⟨p, c, rfl⟩ := hf
  refine ⟨p, c, rfl, h.cap, ?_⟩
  cases l with
  | nil => exact .inl rfl
  | cons x r =>
    obtain ⟨g, c', hv, _, hg, hc, _⟩ := h.opened (by simp)
    cases hv
    exact .inr ⟨g, 0, rfl, hg, fun j x hx => by rw [Nat.zero_add]; exact hc j x hx⟩
/-- a row's first ones -/
theorem OwnS.firsts {base g n c : Nat} {w : World} {l : List ByteArray} (h : OwnS base w (.slice (some ⟨g, 0, none⟩) n c) l) (m : Nat) (hm : m ≤ l.length) : OwnS base w (.slice (some ⟨g, 0, none⟩) m c) (l.take m) := by
  obtain ⟨h0, ⟨e, _⟩ | ⟨g', cap, cur, e, hb, hg, h1, h2, h3, h4⟩⟩ := h
  · cases e
  · cases e
    have hl : (l.take m).length = m := by rw [List.length_take]; omega
    refine ⟨by rw [List.length_map, Nat.mul_one], .inr ⟨g, c, cur, by rw [hl], hb, hg, by omega, h2, h3, ?_⟩⟩
    rw [hl, Nat.mul_one, List.map_take, ← h4, List.take_take, Nat.mul_one, Nat.min_eq_left hm]
theorem OwnS.half {base : Nat} {p : Option Addr} {n c : Nat} {w : World} {l : List ByteArray} (h : OwnS base w (.slice p n c) l) {m : Nat} (hm : m ≤ l.length) : OwnS base w (.slice p m c) (l.take m) := by
  have h' := h
  obtain ⟨h0, ⟨e, h1⟩ | ⟨g', cap, cur, e, _⟩⟩ := h'
  · cases e
    obtain rfl : l = [] := List.length_eq_zero_iff.1 h1
    obtain rfl : m = 0 := by simpa using hm
    exact OwnS.nil _ _
  · cases e
    exact h.firsts m hm
/-- a text is stored -/
theorem OwnS.stored {base g c n : Nat} {w : World} {l : List ByteArray} (h : OwnS base w (.slice (some ⟨g, 0, none⟩) n c) l) (j : Nat) (b : ByteArray) :
    OwnS base (w.setCell ⟨g, j, none⟩ (.string b)) (.slice (some ⟨g, 0, none⟩) n c) (l.set j b) ∧ w.grownBy (w.setCell ⟨g, j, none⟩ (.string b)) (some g) := by
  obtain ⟨p, c', hv⟩ := OwnS.form h
  obtain rfl : n = l.length := by cases hv; rfl
  have h1 := World.ownsRow.stored (u := .string b) h j
  refine ⟨?_, h1.2⟩
  unfold OwnS
  rw [List.length_set, List.map_set]
  exact h1.1
/-- 'append(l, x)' onto such a row -/
theorem wpList_appendT {P : Program} {ops : Array Oper} {rest : List Oper} {o : Oper} {a : Act} {w : World} {Q : Exit → Act → World → Prop} (hgd : o.guard = none) (s x : Operand) (t : TypeId)
    (ho : o.op = .call { callee := .builtin .append, args := #[s, x], argTypes := #[t, t] })
    (base : Nat) (ht : P.underlying t = some (.slice 9)) (hi : (P.info? 9).map (fun i => (i.zero, i.size, i.bytes)) = some (some (.string ⟨#[]⟩), 1, 16))
    (v : Value) (l : List ByteArray) (hs : a.eval s = v) (hown : OwnS base w v l)
    (ad : Addr) (c : Nat) (b : ByteArray) (hx : a.eval x = .slice (some ad) 1 c) (hnews : w.cell? (ad.add 0) = some (.string b))
    (h63 : l.length + 1 ≤ 1099511627776) (hbase : base ≤ w.heap.size)
    (h : ∀ v' w', OwnS base w' v' (l ++ [b]) → w.grownBy w' v.ownBlock → wpList P ops Q rest (a.put o.dst v') w') : wpList P ops Q (o :: rest) a w := by
  obtain ⟨i0, hi0, hz0, hz1, hz2⟩ := info_parts hi
  refine wpList_append_own w hgd s x t ho base 9 i0 (.string ⟨#[]⟩) 1 16 ht hi0 hz0 hz1 hz2 rfl (by decide) v l.length (l.map Value.string) hs hown ad 1 c [.string b] hx (by rfl) (fun j u hu => by
    match j, hu with
    | 0, hu => cases hu; exact hnews) (by simp [Value.oneCell']) (by unfold maxLen; omega) (by omega) hbase ?_
  intro v' w' h1 h2 _
  refine h v' w' ?_ h2
  unfold OwnS
  rw [List.map_append, List.length_append]
  exact h1
theorem wpListIn_appendT {F : Fence} {n : Nat} {P : Program} {ops : Array Oper} {rest : List Oper} {o : Oper} {a : Act} {w : World} {Q : Exit → Act → World → Prop} (hgd : o.guard = none) (s x : Operand) (t : TypeId)
    (ho : o.op = .call { callee := .builtin .append, args := #[s, x], argTypes := #[t, t] })
    (base : Nat) (ht : P.underlying t = some (.slice 9)) (hi : (P.info? 9).map (fun i => (i.zero, i.size, i.bytes)) = some (some (.string ⟨#[]⟩), 1, 16))
    (v : Value) (l : List ByteArray) (hs : a.eval s = v) (hown : OwnS base w v l)
    (ad : Addr) (c : Nat) (b : ByteArray) (hx : a.eval x = .slice (some ad) 1 c) (hnews : w.cell? (ad.add 0) = some (.string b))
    (h63 : l.length + 1 ≤ 1099511627776) (hbase : base ≤ w.heap.size)
    (h : ∀ v' w', OwnS base w' v' (l ++ [b]) → w.grownBy w' v.ownBlock → wpListIn F n P ops Q rest (a.put o.dst v') w') : wpListIn F n P ops Q (o :: rest) a w := by
  obtain ⟨i0, hi0, hz0, hz1, hz2⟩ := info_parts hi
  refine wpListIn_append_own w hgd s x t ho base 9 i0 (.string ⟨#[]⟩) 1 16 ht hi0 hz0 hz1 hz2 rfl (by decide) v l.length (l.map Value.string) hs hown ad 1 c [.string b] hx (by rfl) (fun j u hu => by
    match j, hu with
    | 0, hu => cases hu; exact hnews) (by simp [Value.oneCell']) (by unfold maxLen; omega) (by omega) hbase ?_
  intro v' w' h1 h2 _
  refine h v' w' ?_ h2
  unfold OwnS
  rw [List.map_append, List.length_append]
  exact h1
theorem OwnS.base {b b' : Nat} {w : World} {v : Value} {l : List ByteArray} (h : OwnS b w v l) (hb : b' ≤ b) : OwnS b' w v l := by
  obtain ⟨h1, h2⟩ := h
  refine ⟨h1, ?_⟩
  rcases h2 with h2 | ⟨g, cap, cur, hv, hg, r⟩
  · exact .inl h2
  · exact .inr ⟨g, cap, cur, hv, by omega, r⟩
theorem OwnS.after {b : Nat} {w w' : World} {v : Value} {l : List ByteArray} (h : OwnS b w v l) (hb : Below w.heap.size w w') : OwnS b w' v l := h.of_block (fun k e => hb.block k (h.lt k e).2)
end Go.Proofs.YthicdhnjincflaaDoor
