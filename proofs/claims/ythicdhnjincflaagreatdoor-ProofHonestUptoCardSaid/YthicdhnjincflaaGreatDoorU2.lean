/- What the walks take: Kit. -/
import Derived.Test.YthicdhnjincflaaGreatDoorU0
import Derived.WalkKit
import Derived.OwnWalk
import Derived.OwnWalkIn
import Derived.Lib.UnsafeStr
import Derived.Lib.AppendStr
import Derived.Lib.Hide
import Derived.Laws.IdiomStrings
import Derived.WalkSmall
namespace Go.Proofs.YthicdhnjincflaaGreatDoor
open Go.RowKit
variable {P : Program}
theorem Below.drewN {B : Nat} {a w : World} (h : Below B a w) : ∀ n, Below B a (w.drewN n)
  | 0 => h
  | n + 1 => (Below.drewN h n).drew
def OwnB (e : TypeId) (base : Nat) (w : World) (v : Value) (l : List UInt8) : Prop := w.ownsRow base e 1 v l.length (Lib.byteCells l)
theorem OwnB.nil (e : TypeId) (base : Nat) (w : World) : OwnB e base w (.slice none 0 0) [] := World.ownsRow_nil _ _ _ _
theorem OwnB.alloc {e : TypeId} {base : Nat} {w : World} {v : Value} {l : List UInt8} (h : OwnB e base w v l) (o : Obj) : OwnB e base (w.alloc o) v l := World.ownsRow.alloc h o
theorem OwnB.drew {e : TypeId} {base : Nat} {w : World} {v : Value} {l : List UInt8} (h : OwnB e base w v l) : OwnB e base w.drew v l := h
theorem OwnB.drewN {e : TypeId} {base : Nat} {w : World} {v : Value} {l : List UInt8} (h : OwnB e base w v l) : ∀ n, OwnB e base (w.drewN n) v l
  | 0 => h
  | n + 1 => OwnB.drewN (w := w.drew) h n
theorem OwnB.form {e : TypeId} {base : Nat} {w : World} {v : Value} {l : List UInt8} (h : OwnB e base w v l) : ∃ p c, v = .slice p l.length c := by
  obtain ⟨_, ⟨rfl, h0⟩ | ⟨g, cap, cur, rfl, _⟩⟩ := h
  · exact ⟨none, 0, by rw [h0]⟩
  · exact ⟨_, _, rfl⟩
theorem OwnB.lt {e : TypeId} {base : Nat} {w : World} {v : Value} {l : List UInt8} (h : OwnB e base w v l) : ∀ k, v.ownBlock = some k → base ≤ k ∧ k < w.heap.size := World.ownsRow.lt h
theorem OwnB.kept {e : TypeId} {base : Nat} {w w' : World} {row : Option Nat} {v : Value} {l : List UInt8} (h : OwnB e base w v l) (hg : w.grownBy w' row) (hne : v.ownBlock = none ∨ v.ownBlock ≠ row) : OwnB e base w' v l := World.ownsRow.kept h hg hne
theorem OwnB.below {e : TypeId} {base B : Nat} {w w' : World} {v : Value} {l : List UInt8} (h : OwnB e base w v l) (hb : Below B w w') (hB : ∀ k, v.ownBlock = some k → k < B) : OwnB e base w' v l := by
  obtain ⟨h1, h2⟩ := h
  refine ⟨h1, ?_⟩
  rcases h2 with h2 | ⟨g, cap, cur, hv, hg, hh, r⟩
  · exact .inl h2
  · exact .inr ⟨g, cap, cur, hv, hg, by rw [hb.block g (hB g (by rw [hv]; rfl))]; exact hh, r⟩
theorem OwnB.str {e src dst : TypeId} {base : Nat} {w : World} {v : Value} {l : List UInt8} (h : OwnB e base w v l)
    (hs : P.underlying src = some (.slice e)) (he : P.underlying e = some (.int .u8)) (hd : P.underlying dst = some .string) :
    (convert src dst v).run P w = .ok (.string ⟨l.toArray⟩) w := by
  have hc := fun g (hg : v.ownBlock = some g) => World.ownsRow.cells h hg
  obtain ⟨_, ⟨rfl, h0⟩ | ⟨g, cap, cur, rfl, _⟩⟩ := h
  · obtain rfl : l = [] := List.length_eq_zero_iff.1 h0
    rw [run_convert_bytes_string w src dst e none 0 0 hs he hd]
    rfl
  · exact run_convert_bytes_back w src dst e _ cap l hs he hd (fun j hj => hc g rfl j _ (by simp [Lib.byteCells, hj]))
theorem byteCells_one (l : List UInt8) : ∀ u ∈ Lib.byteCells l, u.oneCell' = true := by
  intro u hu
  simp only [Lib.byteCells, List.mem_map] at hu
  obtain ⟨b, _, rfl⟩ := hu
  rfl
theorem cells_new (w : World) (xs : List Value) (t : TypeId) : ∀ j u, xs[j]? = some u → (w.alloc (.cells xs.toArray t)).cell? ((⟨w.heap.size, 0, none⟩ : Addr).add j) = some u := by
  intro j u h
  have e : ((⟨w.heap.size, 0, none⟩ : Addr).add j) = ⟨w.heap.size, j, none⟩ := by
    unfold Addr.add; split
    · rename_i h0; subst h0; rfl
    · simp
  rw [e, World.cell?_alloc_mark]
  simpa using h
theorem cells_new_at {w : World} {g : Nat} (hg : g = w.heap.size) (xs : List Value) (t : TypeId) : ∀ j u, xs[j]? = some u → (w.alloc (.cells xs.toArray t)).cell? ((⟨g, 0, none⟩ : Addr).add j) = some u := by
  subst hg
  exact cells_new w xs t
theorem wpList_appendB {ops : Array Oper} {rest : List Oper} {o : Oper} {a : Act} {w : World} {Q : Exit → Act → World → Prop} (hgd : o.guard = none) (s x : Operand) (t : TypeId)
    (ho : o.op = .call { callee := .builtin .append, args := #[s, x], argTypes := #[t, t] })
    (base : Nat) (e : TypeId) (ht : P.underlying t = some (.slice e)) (hi : (P.info? e).map (fun i => (i.zero, i.size, i.bytes)) = some (some (.int .u8 0), 1, 1))
    (v : Value) (l : List UInt8) (hs : a.eval s = v) (hown : OwnB e base w v l)
    (ad : Addr) (m c : Nat) (news : List UInt8) (hx : a.eval x = .slice (some ad) m c) (hl : news.length = m) (hnews : ∀ j u, (Lib.byteCells news)[j]? = some u → w.cell? (ad.add j) = some u)
    (h63 : l.length + m ≤ 140737488355328) (hbase : base ≤ w.heap.size)
    (h : ∀ v' w', OwnB e base w' v' (l ++ news) → w.grownBy w' v.ownBlock → wpList P ops Q rest (a.put o.dst v') w') : wpList P ops Q (o :: rest) a w := by
  obtain ⟨i0, hi0, hz0, hz1, hz2⟩ := info_parts hi
  refine wpList_append_own w hgd s x t ho base e i0 (.int .u8 0) 1 1 ht hi0 hz0 hz1 hz2 rfl (by decide) v l.length (Lib.byteCells l) hs hown ad m c (Lib.byteCells news) hx (by rw [Lib.byteCells_length]; omega) hnews (byteCells_one _) (by unfold maxLen; omega) (by omega) hbase ?_
  intro v' w' h1 h2 _
  refine h v' w' ?_ h2
  unfold OwnB
  rw [Lib.byteCells_append, List.length_append, hl]
  exact h1
theorem wpListIn_appendB {F : Fence} {n : Nat} {ops : Array Oper} {rest : List Oper} {o : Oper} {a : Act} {w : World} {Q : Exit → Act → World → Prop} (hgd : o.guard = none) (s x : Operand) (t : TypeId)
    (ho : o.op = .call { callee := .builtin .append, args := #[s, x], argTypes := #[t, t] })
    (base : Nat) (e : TypeId) (ht : P.underlying t = some (.slice e)) (hi : (P.info? e).map (fun i => (i.zero, i.size, i.bytes)) = some (some (.int .u8 0), 1, 1))
    (v : Value) (l : List UInt8) (hs : a.eval s = v) (hown : OwnB e base w v l)
    (ad : Addr) (m c : Nat) (news : List UInt8) (hx : a.eval x = .slice (some ad) m c) (hl : news.length = m) (hnews : ∀ j u, (Lib.byteCells news)[j]? = some u → w.cell? (ad.add j) = some u)
    (h63 : l.length + m ≤ 140737488355328) (hbase : base ≤ w.heap.size)
    (h : ∀ v' w', OwnB e base w' v' (l ++ news) → w.grownBy w' v.ownBlock → wpListIn F n P ops Q rest (a.put o.dst v') w') : wpListIn F n P ops Q (o :: rest) a w := by
  obtain ⟨i0, hi0, hz0, hz1, hz2⟩ := info_parts hi
  refine wpListIn_append_own w hgd s x t ho base e i0 (.int .u8 0) 1 1 ht hi0 hz0 hz1 hz2 rfl (by decide) v l.length (Lib.byteCells l) hs hown ad m c (Lib.byteCells news) hx (by rw [Lib.byteCells_length]; omega) hnews (byteCells_one _) (by unfold maxLen; omega) (by omega) hbase ?_
  intro v' w' h1 h2 _
  refine h v' w' ?_ h2
  unfold OwnB
  rw [Lib.byteCells_append, List.length_append, hl]
  exact h1
theorem step_appendB {ops : Array Oper} {o : Oper} {a : Act} {w : World} {K : Act → World → Prop} {Q : Exit → Act → World → Prop} {E : Prop} (hgd : o.guard = none) (s x : Operand) (t : TypeId)
    (ho : o.op = .call { callee := .builtin .append, args := #[s, x], argTypes := #[t, t] })
    (base : Nat) (e : TypeId) (ht : P.underlying t = some (.slice e)) (hi : (P.info? e).map (fun i => (i.zero, i.size, i.bytes)) = some (some (.int .u8 0), 1, 1))
    (v : Value) (l : List UInt8) (hs : a.eval s = v) (hown : OwnB e base w v l)
    (ad : Addr) (m c : Nat) (news : List UInt8) (hx : a.eval x = .slice (some ad) m c) (hl : news.length = m) (hnews : ∀ j u, (Lib.byteCells news)[j]? = some u → w.cell? (ad.add j) = some u)
    (h63 : l.length + m ≤ 140737488355328) (hbase : base ≤ w.heap.size)
    (hK : ∀ v' w', OwnB e base w' v' (l ++ news) → w.grownBy w' v.ownBlock → K (a.put o.dst v') w') :
    if Region.wanted o (yielded ops a.tmps) = true then Oper.wp P o a w K Q else E := by
  have hw : Region.wanted o (yielded ops a.tmps) = true := by simp [Region.wanted, hgd]
  rw [if_pos hw]
  obtain ⟨i0, hi0, hz0, hz1, hz2⟩ := info_parts hi
  obtain ⟨v', w', hrun, r1, r2, _⟩ := run_append_own (P := P) w base t o.type e i0 (.int .u8 0) 1 1 ht hi0 hz0 hz1 hz2 rfl (by decide) v l.length (Lib.byteCells l) hown ad m c (Lib.byteCells news) (by rw [Lib.byteCells_length]; omega) hnews (byteCells_one _) (by unfold maxLen; omega) (by omega) hbase
  unfold Oper.wp
  simp [execOp, ho, resolve, invoke, builtin, hs, hx, hrun, Result.andThen]
  refine hK v' w' ?_ r2
  unfold OwnB
  rw [Lib.byteCells_append, List.length_append, hl]
  exact r1
theorem wpList_appendS {ops : Array Oper} {rest : List Oper} {o : Oper} {a : Act} {w : World} {Q : Exit → Act → World → Prop} (hgd : o.guard = none) (s x : Operand) (t u : TypeId)
    (ho : o.op = .call { callee := .builtin .append, args := #[s, x], argTypes := #[t, u] })
    (base : Nat) (e : TypeId) (ht : P.underlying t = some (.slice e)) (hu : P.underlying u = some .string) (hi : (P.info? e).map (fun i => (i.zero, i.size, i.bytes)) = some (some (.int .u8 0), 1, 1))
    (v : Value) (l : List UInt8) (hs : a.eval s = v) (hown : OwnB e base w v l)
    (str : ByteArray) (hx : a.eval x = .string str)
    (h63 : l.length + str.size ≤ 140737488355328) (hbase : base ≤ w.heap.size)
    (h : ∀ v' w', OwnB e base w' v' (l ++ str.data.toList) → w.grownBy w' v.ownBlock → wpList P ops Q rest (a.put o.dst v') w') : wpList P ops Q (o :: rest) a w := by
  obtain ⟨i0, hi0, hz0, hz1, hz2⟩ := info_parts hi
  refine Lib.wpList_append_own_string w hgd s x t u ho base e i0 ht hu hi0 hz0 hz1 hz2 v l.length (Lib.byteCells l) hs hown str hx (by unfold maxLen; omega) (by omega) hbase ?_
  intro v' w' h1 h2 _
  refine h v' w' ?_ h2
  unfold OwnB
  rw [Lib.byteCells_append, List.length_append, ← Lib.strCells_eq]
  exact h1
theorem OwnB.opened {e : TypeId} {base : Nat} {w : World} {v : Value} {l : List UInt8} (h : OwnB e base w v l) (h0 : 0 < l.length) :
    ∃ g c, v = .slice (some ⟨g, 0, none⟩) l.length c ∧ base ≤ g ∧ g < w.heap.size ∧ (∀ j (hj : j < l.length), w.cell? ⟨g, j, none⟩ = some (.int .u8 l[j].toNat)) ∧ (∀ j, w.frozen? ⟨g, j, none⟩ = false) := by
  have h' := h
  obtain ⟨_, ⟨_, hn⟩ | ⟨g, cap, cur, rfl, hb, hg, _⟩⟩ := h
  · omega
  · refine ⟨g, cap, rfl, hb, (Array.getElem?_eq_some_iff.1 hg).1, fun j hj => ?_, fun j => World.ownsRow.frozenAt h' j⟩
    rw [World.ownsRow.cellAt h' j (by omega)]
    simp [Lib.byteCells, hj]
theorem OwnB.cells {e : TypeId} {base g n c : Nat} {w : World} {l : List UInt8} (h : OwnB e base w (.slice (some ⟨g, 0, none⟩) n c) l) (h0 : 0 < l.length) :
    base ≤ g ∧ g < w.heap.size ∧ (∀ j (hj : j < l.length), w.cell? ⟨g, j, none⟩ = some (.int .u8 l[j].toNat)) ∧ (∀ j, w.frozen? ⟨g, j, none⟩ = false) := by
  obtain ⟨g', c', hv, hr⟩ := h.opened h0
  simp only [Value.slice.injEq, Option.some.injEq, Addr.mk.injEq, and_true] at hv
  obtain ⟨rfl, _, _⟩ := hv
  exact hr
theorem OwnB.lit {e : TypeId} {base : Nat} (w : World) (l : List UInt8) (hb : base ≤ w.heap.size) (hl : l.length ≤ 140737488355328) :
    OwnB e base (w.alloc (.cells (Lib.byteCells l).toArray e)) (.slice (some ⟨w.heap.size, 0, none⟩) l.length l.length) l := by
  have := World.ownsRow_lit (base := base) (e := e) (size := 1) w (Lib.byteCells l).toArray l.length hb (by unfold maxLen; omega) (by simp [Lib.byteCells])
  unfold OwnB
  simpa using this
theorem OwnB.stored {e : TypeId} {base g c n : Nat} {w : World} {l : List UInt8} (h : OwnB e base w (.slice (some ⟨g, 0, none⟩) n c) l) (j : Nat) (b : UInt8) :
    OwnB e base (w.setCell ⟨g, j, none⟩ (.int .u8 b.toNat)) (.slice (some ⟨g, 0, none⟩) n c) (l.set j b) ∧ w.grownBy (w.setCell ⟨g, j, none⟩ (.int .u8 b.toNat)) (some g) := by
  obtain ⟨p, c', hv⟩ := OwnB.form h
  obtain rfl : n = l.length := by cases hv; rfl
  have h1 := World.ownsRow.stored (u := .int .u8 b.toNat) h j
  refine ⟨?_, h1.2⟩
  unfold OwnB
  rw [List.length_set]
  have e1 : Lib.byteCells (l.set j b) = (Lib.byteCells l).set j (.int .u8 b.toNat) := by simp [Lib.byteCells, List.map_set]
  rw [e1]
  exact h1.1
theorem wpList_makeB {ops : Array Oper} {rest : List Oper} {o : Oper} {a : Act} {w : World} {Q : Exit → Act → World → Prop} (hgd : o.guard = none) (l c : Operand) (t : TypeId) (ho : o.op = Op.makeSlice t l c)
    (base : Nat) (e : TypeId) (ht : P.underlying t = some (.slice e)) (hi : (P.info? e).map (fun i => (i.zero, i.size, i.bytes)) = some (some (.int .u8 0), 1, 1))
    (n : Nat) (L C : Int) (hl : a.eval l = .int .i64 L) (hc : a.eval c = .int .i64 C) (hL : L = n) (hC : C = n) (hn : n ≤ 140737488355328) (hbase : base ≤ w.heap.size)
    (h : ∀ w', OwnB e base w' (.slice (some ⟨w.heap.size, 0, none⟩) n n) (List.replicate n 0) → w.grownBy w' none → wpList P ops Q rest (a.put o.dst (.slice (some ⟨w.heap.size, 0, none⟩) n n)) w') : wpList P ops Q (o :: rest) a w := by
  obtain ⟨i0, hi0, hz0, hz1, hz2⟩ := info_parts hi
  refine wpList_make_full w hgd l c t ho base e i0 (.int .u8 0) 1 ht hi0 hz0 hz1 .i64 .i64 L C n hl hc hL hC (by rw [hz2]; omega) (by unfold maxLen; omega) hbase ?_
  intro w' h1 h2
  refine h w' ?_ h2
  have e1 : (madeCells (Value.int .u8 0).cells (n * 1)).toList = Lib.byteCells (List.replicate n 0) := by
    have := toList_madeCells_one (.int .u8 0) (n * 1)
    rw [show (Value.int .u8 0).cells = #[Value.int .u8 0] from rfl, this, Nat.mul_one]
    simp [Lib.byteCells]
  rw [e1] at h1
  unfold OwnB
  rw [List.length_replicate]
  exact h1
end Go.Proofs.YthicdhnjincflaaGreatDoor
