/- What the walks take: Kit, EvmP. -/
import Derived.WalkKit
import Derived.OwnWalk
import Derived.OwnWalkIn
import Derived.Lib.UnsafeStr
import Derived.Lib.AppendStr
import Derived.Lib.Hide
import Derived.Laws.IdiomStrings
import Derived.WalkSmall
namespace Go.Proofs.YtlelgbmbmajfmaaGreatDoor
open Go.RowKit
variable {P : Program}
theorem Below.drewN {B : Nat} {a w : World} (h : Below B a w) : ∀ n, Below B a (w.drewN n)
  | 0 => h
  | n + 1 => (Below.drewN h n).drew
/-- the bytes l lie in a row that the call owns, from block base on; v is the slice -/
def OwnB (e : TypeId) (base : Nat) (w : World) (v : Value) (l : List UInt8) : Prop := w.ownsRow base e 1 v l.length (Lib.byteCells l)
theorem OwnB.nil (e : TypeId) (base : Nat) (w : World) : OwnB e base w (.slice none 0 0) [] := World.ownsRow_nil _ _ _ _
theorem OwnB.alloc {e : TypeId} {base : Nat} {w : World} {v : Value} {l : List UInt8} (h : OwnB e base w v l) (o : Obj) : OwnB e base (w.alloc o) v l := World.ownsRow.alloc h o
theorem OwnB.drew {e : TypeId} {base : Nat} {w : World} {v : Value} {l : List UInt8} (h : OwnB e base w v l) : OwnB e base w.drew v l := h
theorem OwnB.drewN {e : TypeId} {base : Nat} {w : World} {v : Value} {l : List UInt8} (h : OwnB e base w v l) : ∀ n, OwnB e base (w.drewN n) v l
  | 0 => h
  | n + 1 => OwnB.drewN (w := w.drew) h n
theorem OwnB.form {e : TypeId} {base : Nat} {w : World} {v : Value} {l : List UInt8} (h : OwnB e base w v l) : ∃ p c, v = .slice p l.length c := by
  obtain ⟨_, ⟨rfl, h0⟩ | ⟨g, cap, cur, rfl, _⟩⟩ := h
  · exact ⟨none, 0, by rw [h0]⟩
  · exact ⟨_, _, rfl⟩
theorem OwnB.lt {e : TypeId} {base : Nat} {w : World} {v : Value} {l : List UInt8} (h : OwnB e base w v l) : ∀ k, v.ownBlock = some k → base ≤ k ∧ k < w.heap.size := World.ownsRow.lt h
theorem OwnB.kept {e : TypeId} {base : Nat} {w w' : World} {row : Option Nat} {v : Value} {l : List UInt8} (h : OwnB e base w v l) (hg : w.grownBy w' row) (hne : v.ownBlock = none ∨ v.ownBlock ≠ row) : OwnB e base w' v l := World.ownsRow.kept h hg hne
theorem OwnB.below {e : TypeId} {base B : Nat} {w w' : World} {v : Value} {l : List UInt8} (h : OwnB e base w v l) (hb : Below B w w') (hB : ∀ k, v.ownBlock = some k → k < B) : OwnB e base w' v l := by
  obtain ⟨h1, h2⟩ := h
  refine ⟨h1, ?_⟩
  rcases h2 with h2 | ⟨g, cap, cur, hv, hg, hh, r⟩
  · exact .inl h2
  · exact .inr ⟨g, cap, cur, hv, hg, by rw [hb.block g (hB g (by rw [hv]; rfl))]; exact hh, r⟩
/-- 'string(b)' of such a row -/
theorem OwnB.str {e src dst : TypeId} {base : Nat} {w : World} {v : Value} {l : List UInt8} (h : OwnB e base w v l)
    (hs : P.underlying src = some (.slice e)) (he : P.underlying e = some (.int .u8)) (hd : P.underlying dst = some .string) :
    (convert src dst v).run P w = .ok (.string ⟨l.toArray⟩) w := by
  have hc := fun g (hg : v.ownBlock = some g) => World.ownsRow.cells h hg
  obtain ⟨_, ⟨rfl, h0⟩ | ⟨g, cap, cur, rfl, _⟩⟩ := h
  · obtain rfl : l = [] := List.length_eq_zero_iff.1 h0
    rw [run_convert_bytes_string w src dst e none 0 0 hs he hd]
    rfl
  · exact run_convert_bytes_back w src dst e _ cap l hs he hd (fun j hj => hc g rfl j _ (by simp [Lib.byteCells, hj]))
theorem byteCells_one (l : List UInt8) : ∀ u ∈ Lib.byteCells l, u.oneCell' = true := by
  intro u hu
  simp only [Lib.byteCells, List.mem_map] at hu
  obtain ⟨b, _, rfl⟩ := hu
  rfl
/-- the cells of a block that was just laid -/
theorem cells_new (w : World) (xs : List Value) (t : TypeId) : ∀ j u, xs[j]? = some u → (w.alloc (.cells xs.toArray t)).cell? ((⟨w.heap.size, 0, none⟩ : Addr).add j) = some u := by
  intro j u h
  have e : ((⟨w.heap.size, 0, none⟩ : Addr).add j) = ⟨w.heap.size, j, none⟩ := by
    unfold Addr.add; split
    · rename_i h0; subst h0; rfl
    · simp
  rw [e, World.cell?_alloc_mark]
  simpa using h
theorem cells_new_at {w : World} {g : Nat} (hg : g = w.heap.size) (xs : List Value) (t : TypeId) : ∀ j u, xs[j]? = some u → (w.alloc (.cells xs.toArray t)).cell? ((⟨g, 0, none⟩ : Addr).add j) = some u := by
  subst hg
  exact cells_new w xs t
/-- a row that holds at least one byte, opened -/
theorem OwnB.opened {e : TypeId} {base : Nat} {w : World} {v : Value} {l : List UInt8} (h : OwnB e base w v l) (h0 : 0 < l.length) :
    ∃ g c, v = .slice (some ⟨g, 0, none⟩) l.length c ∧ base ≤ g ∧ g < w.heap.size ∧ (∀ j (hj : j < l.length), w.cell? ⟨g, j, none⟩ = some (.int .u8 l[j].toNat)) ∧ (∀ j, w.frozen? ⟨g, j, none⟩ = false) := by
  have h' := h
  obtain ⟨_, ⟨_, hn⟩ | ⟨g, cap, cur, rfl, hb, hg, _⟩⟩ := h
  · omega
  · refine ⟨g, cap, rfl, hb, (Array.getElem?_eq_some_iff.1 hg).1, fun j hj => ?_, fun j => World.ownsRow.frozenAt h' j⟩
    rw [World.ownsRow.cellAt h' j (by omega)]
    simp [Lib.byteCells, hj]
theorem OwnB.cells {e : TypeId} {base g n c : Nat} {w : World} {l : List UInt8} (h : OwnB e base w (.slice (some ⟨g, 0, none⟩) n c) l) (h0 : 0 < l.length) :
    base ≤ g ∧ g < w.heap.size ∧ (∀ j (hj : j < l.length), w.cell? ⟨g, j, none⟩ = some (.int .u8 l[j].toNat)) ∧ (∀ j, w.frozen? ⟨g, j, none⟩ = false) := by
  obtain ⟨g', c', hv, hr⟩ := h.opened h0
  simp only [Value.slice.injEq, Option.some.injEq, Addr.mk.injEq, and_true] at hv
  obtain ⟨rfl, _, _⟩ := hv
  exact hr
/-- a block of bytes that was just laid by a literal -/
theorem OwnB.lit {e : TypeId} {base : Nat} (w : World) (l : List UInt8) (hb : base ≤ w.heap.size) (hl : l.length ≤ 140737488355328) :
    OwnB e base (w.alloc (.cells (Lib.byteCells l).toArray e)) (.slice (some ⟨w.heap.size, 0, none⟩) l.length l.length) l := by
  have := World.ownsRow_lit (base := base) (e := e) (size := 1) w (Lib.byteCells l).toArray l.length hb (by unfold maxLen; omega) (by simp [Lib.byteCells])
  unfold OwnB
  simpa using this
/-- a byte is stored -/
theorem OwnB.stored {e : TypeId} {base g c n : Nat} {w : World} {l : List UInt8} (h : OwnB e base w (.slice (some ⟨g, 0, none⟩) n c) l) (j : Nat) (b : UInt8) :
    OwnB e base (w.setCell ⟨g, j, none⟩ (.int .u8 b.toNat)) (.slice (some ⟨g, 0, none⟩) n c) (l.set j b) ∧ w.grownBy (w.setCell ⟨g, j, none⟩ (.int .u8 b.toNat)) (some g) := by
  obtain ⟨p, c', hv⟩ := OwnB.form h
  obtain rfl : n = l.length := by cases hv; rfl
  have h1 := World.ownsRow.stored (u := .int .u8 b.toNat) h j
  refine ⟨?_, h1.2⟩
  unfold OwnB
  rw [List.length_set]
  have e1 : Lib.byteCells (l.set j b) = (Lib.byteCells l).set j (.int .u8 b.toNat) := by simp [Lib.byteCells, List.map_set]
  rw [e1]
  exact h1.1
/-- 'make([]byte, n)' -/
theorem wpList_makeB {ops : Array Oper} {rest : List Oper} {o : Oper} {a : Act} {w : World} {Q : Exit → Act → World → Prop} (hgd : o.guard = none) (l c : Operand) (t : TypeId) (ho : o.op = Op.makeSlice t l c)
    (base : Nat) (e : TypeId) (ht : P.underlying t = some (.slice e)) (hi : (P.info? e).map (fun i => (i.zero, i.size, i.bytes)) = some (some (.int .u8 0), 1, 1))
    (n : Nat) (L C : Int) (hl : a.eval l = .int .i64 L) (hc : a.eval c = .int .i64 C) (hL : L = n) (hC : C = n) (hn : n ≤ 140737488355328) (hbase : base ≤ w.heap.size)
    (h : ∀ w', OwnB e base w' (.slice (some ⟨w.heap.size, 0, none⟩) n n) (List.replicate n 0) → w.grownBy w' none → wpList P ops Q rest (a.put o.dst (.slice (some ⟨w.heap.size, 0, none⟩) n n)) w') : wpList P ops Q (o :: rest) a w := by
  obtain ⟨i0, hi0, hz0, hz1, hz2⟩ := info_parts hi
  refine wpList_make_full w hgd l c t ho base e i0 (.int .u8 0) 1 ht hi0 hz0 hz1 .i64 .i64 L C n hl hc hL hC (by rw [hz2]; omega) (by unfold maxLen; omega) hbase ?_
  intro w' h1 h2
  refine h w' ?_ h2
  have e1 : (madeCells (Value.int .u8 0).cells (n * 1)).toList = Lib.byteCells (List.replicate n 0) := by
    have := toList_madeCells_one (.int .u8 0) (n * 1)
    rw [show (Value.int .u8 0).cells = #[Value.int .u8 0] from rfl, this, Nat.mul_one]
    simp [Lib.byteCells]
  rw [e1] at h1
  unfold OwnB
  rw [List.length_replicate]
  exact h1
end Go.Proofs.YtlelgbmbmajfmaaGreatDoor

namespace Go.Proofs.YtlelgbmbmajfmaaGreatDoor
open Go.RowKit
/-- the rows: which operations, what each takes, puts, costs -/
def rowsE : List (List UInt8 × Nat × Nat × Nat) := [([0x00, 0xfe], 0, 0, 0), ([0x01, 0x03, 0x10, 0x11, 0x12, 0x13, 0x14, 0x16, 0x17, 0x18, 0x1a, 0x1b, 0x1c, 0x1d], 2, 1, 3), ([0x02, 0x04, 0x05, 0x06, 0x07, 0x0b], 2, 1, 5),
  ([0x08, 0x09], 3, 1, 8), ([0x0a], 2, 1, 10), ([0x15, 0x19, 0x35, 0x51], 1, 1, 3), ([0x20], 2, 1, 30), ([0x30, 0x32, 0x33, 0x34, 0x36, 0x38, 0x3d, 0x43, 0x58, 0x59, 0x5a, 0x5f], 0, 1, 2),
  ([0x31, 0x3b, 0x3f, 0x54], 1, 1, 0), ([0x37, 0x39, 0x3e, 0x5e], 3, 0, 3), ([0x47], 0, 1, 5), ([0x50], 1, 0, 2), ([0x52, 0x53], 2, 0, 3), ([0x55, 0xf3, 0xfd], 2, 0, 0), ([0x56], 1, 0, 8), ([0x57], 2, 0, 10), ([0x5b], 0, 0, 1),
  ([0x5c], 1, 1, 100), ([0x5d], 2, 0, 100), ([0xf1], 7, 1, 0), ([0xf4, 0xfa], 6, 1, 0)]
def rowOfE (op : UInt8) : Option (List UInt8 × Nat × Nat × Nat) := rowsE.find? fun r => r.1.contains op
theorem rowsE_one : ((List.range 256).all fun k => rowsE.all fun r => !(r.1.contains (UInt8.ofNat k)) || (rowOfE (UInt8.ofNat k) == some r)) = true := by decide +kernel
theorem rowOfE_of {op : UInt8} {r : List UInt8 × Nat × Nat × Nat} (hr : r ∈ rowsE) (h : r.1.contains op = true) : rowOfE op = some r := by
  have h1 := List.all_eq_true.1 rowsE_one op.toNat (List.mem_range.2 op.toNat_lt)
  have h2 := List.all_eq_true.1 h1 r hr
  rw [show UInt8.ofNat op.toNat = op from UInt8.ofNat_toNat, h] at h2
  simpa using h2
theorem rowOfE_none {op : UInt8} (h : ∀ r ∈ rowsE, r.1.contains op = false) : rowOfE op = none := by
  unfold rowOfE
  rw [List.find?_eq_none]
  intro r hr
  rw [h r hr]
  exact Bool.false_ne_true
/-- the rows as a map's entries -/
def entE (i : Nat) (r : List UInt8 × Nat × Nat × Nat) : MapEntry := { key := .string ⟨r.1.toArray⟩, val := .agg #[.int .i64 r.2.1, .int .i64 r.2.2.1, .int .u64 r.2.2.2], born := i }
def rowsL : List MapEntry := (List.range 21).map fun i => entE i (rowsE.getD i ([], 0, 0, 0))
theorem rowsL_at {k : Nat} (hk : k < 21) : rowsL[k]? = some (entE k (rowsE.getD k ([], 0, 0, 0))) := by
  unfold rowsL
  rw [List.getElem?_map, List.getElem?_range hk]
  rfl
theorem rowsL_mem {e : MapEntry} (h : e ∈ rowsL) : ∃ r ∈ rowsE, e.key = .string ⟨r.1.toArray⟩ ∧ e.val = .agg #[.int .i64 r.2.1, .int .i64 r.2.2.1, .int .u64 r.2.2.2] := by
  obtain ⟨i, hi, rfl⟩ := List.mem_map.1 h
  have hi' : i < rowsE.length := List.mem_range.1 hi
  refine ⟨rowsE.getD i ([], 0, 0, 0), ?_, rfl, rfl⟩
  rw [List.getD_eq_getElem?_getD, List.getElem?_eq_getElem hi']
  exact List.getElem_mem hi'
theorem rowsL_has {r : List UInt8 × Nat × Nat × Nat} (h : r ∈ rowsE) : ∃ e ∈ rowsL, e.key = .string ⟨r.1.toArray⟩ := by
  obtain ⟨i, hi, rfl⟩ := List.mem_iff_getElem.1 h
  have hi' : i < 21 := hi
  refine ⟨entE i (rowsE.getD i ([], 0, 0, 0)), List.mem_map.2 ⟨i, List.mem_range.2 hi', rfl⟩, ?_⟩
  unfold entE
  rw [List.getD_eq_getElem?_getD, List.getElem?_eq_getElem hi]
  rfl
theorem rows_pair : (List.range 21).all (fun j => (List.range 21).all fun k => decide (j = k) || !((rowsE.getD j ([], 0, 0, 0)).1 == (rowsE.getD k ([], 0, 0, 0)).1)) = true := by decide +kernel
theorem rows_apart {j k : Nat} (hj : j < 21) (hk : k < 21) (hne : j ≠ k) : (entE j (rowsE.getD j ([], 0, 0, 0))).key ≠ (entE k (rowsE.getD k ([], 0, 0, 0))).key := by
  intro h
  have h1 := List.all_eq_true.1 (List.all_eq_true.1 rows_pair j (List.mem_range.2 hj)) k (List.mem_range.2 hk)
  have h2 : (rowsE.getD j ([], 0, 0, 0)).1 = (rowsE.getD k ([], 0, 0, 0)).1 := by
    unfold entE at h
    simp only [Value.string.injEq, ByteArray.mk.injEq] at h
    have := congrArg Array.toList h
    simpa using this
  rw [h2] at h1
  simp [hne] at h1
theorem rowsL_stamped : (∀ x ∈ rowsL, x.born < 21) ∧ (rowsL.map (·.born)).Nodup := by
  unfold rowsL
  refine ⟨fun x hx => ?_, ?_⟩
  · obtain ⟨i, hi, rfl⟩ := List.mem_map.1 hx
    exact List.mem_range.1 hi
  · rw [List.map_map]
    show ((List.range 21).map fun i => i).Nodup
    rw [List.map_id']
    exact List.nodup_range
/-- what an operation takes, puts, costs; false: it is none -/
def infoE (op : UInt8) : Nat × Nat × Nat × Bool :=
  if 0x60 ≤ op.toNat ∧ op.toNat < 0x80 then (0, 1, 3, true)
  else if 0x80 ≤ op.toNat ∧ op.toNat < 0x90 then (op.toNat % 16 + 1, op.toNat % 16 + 2, 3, true)
  else if 0x90 ≤ op.toNat ∧ op.toNat < 0xa0 then (op.toNat % 16 + 2, op.toNat % 16 + 2, 3, true)
  else if 0xa0 ≤ op.toNat ∧ op.toNat < 0xa5 then (op.toNat % 16 + 2, 0, 375 * (op.toNat % 16 + 1), true)
  else match rowOfE op with
    | some r => (r.2.1, r.2.2.1, r.2.2.2, true)
    | none => (0, 0, 0, false)
/-- the operation at a place, its bytes, the next place -/
def opE (c : List UInt8) (pc : Nat) : UInt8 := c.getD pc 0
def pushE (op : UInt8) : Bool := decide (0x60 ≤ op.toNat) && decide (op.toNat ≤ 0x7f)
def dataE (c : List UInt8) (pc : Nat) : List UInt8 :=
  if pushE (opE c pc) then ((c.drop (pc + 1)).take ((opE c pc).toNat - 0x5f)) ++ List.replicate ((opE c pc).toNat - 0x5f - ((c.drop (pc + 1)).take ((opE c pc).toNat - 0x5f)).length) 0 else []
def nextE (c : List UInt8) (pc : Nat) : Nat := if pushE (opE c pc) then pc + 1 + ((opE c pc).toNat - 0x5f) else pc + 1
theorem nextE_lt (c : List UInt8) (pc : Nat) : pc < nextE c pc ∧ nextE c pc ≤ pc + 33 := by
  unfold nextE
  split
  · rename_i h
    unfold pushE at h
    simp only [Bool.and_eq_true, decide_eq_true_eq] at h
    omega
  · omega
end Go.Proofs.YtlelgbmbmajfmaaGreatDoor
