/- What the walks take: Cel, Ew0. -/
import Derived.Test.YtlelgbmbmajfmaaGreatDoorS2
import Derived.Deep.MidRow
import Derived.Deep.RegionHeld3
import Derived.Lib.Hide
import Derived.RangeFuncNested
import Derived.Shelf.Abstract
import Derived.WalkKit
import Derived.OwnWalk
import Derived.OwnWalkIn
import Derived.Lib.UnsafeStr
import Derived.Lib.AppendStr
import Derived.Laws.IdiomStrings
import Derived.WalkSmall
namespace Go.Proofs.YtlelgbmbmajfmaaGreatDoor
open Go.RowKit Go.Shelf Go.Lib
theorem load_gateK {P : Program} {ops : Array Oper} {Q : Exit → Act → World → Prop} {rest : List Oper} {a : Act} {w : World} {d : Option Tmp} {x : Operand} {ty : TypeId} {pos : String} {af : Array Edge} {g : Option (Nat × Bool)} (T : TypeId)
    (h : wpList P ops Q (Oper.mk d (Op.load T x) ty pos af g :: rest) a w) : wpList P ops Q (Oper.mk d (Op.load T x) ty pos af g :: rest) a w := h
theorem store_gateK {P : Program} {ops : Array Oper} {Q : Exit → Act → World → Prop} {rest : List Oper} {a : Act} {w : World} {d : Option Tmp} {x y : Operand} {ty : TypeId} {pos : String} {af : Array Edge} {g : Option (Nat × Bool)} (T : TypeId)
    (h : wpList P ops Q (Oper.mk d (Op.store T x y) ty pos af g :: rest) a w) : wpList P ops Q (Oper.mk d (Op.store T x y) ty pos af g :: rest) a w := h
/-- a block of cells, whole -/
def HasCells (W : World) (q : Nat) (cs : List Value) (t : TypeId) : Prop := W.heap[q]? = some (.cells cs.toArray t (0, 0))
/-- cells written one behind the other -/
def spl (cs : List Value) : Nat → List Value → List Value
  | _, [] => cs
  | o, v :: r => spl (cs.set o v) (o + 1) r
theorem HasCells.set {W : World} {q : Nat} {cs : List Value} {t : TypeId} (h : HasCells W q cs t) (j : Nat) (v : Value) : HasCells (W.setCell ⟨q, j, none⟩ v) q (cs.set j v) t := by
  show (W.heap.modify q _)[q]? = _
  rw [Array.getElem?_modify, if_pos rfl, show W.heap[q]? = _ from h]
  simp
theorem HasCells.sets {q : Nat} {t : TypeId} : ∀ (vs : List Value) (o : Nat) (W : World) (cs : List Value), HasCells W q cs t → HasCells (W.setCells q o vs) q (spl cs o vs) t
  | [], _, _, _, h => h
  | v :: vs, o, _, _, h => HasCells.sets vs (o + 1) _ _ (h.set o v)
theorem HasCells.cell {W : World} {q : Nat} {cs : List Value} {t : TypeId} (h : HasCells W q cs t) {j : Nat} {v : Value} (hj : cs[j]? = some v) : W.cell? ⟨q, j, none⟩ = some v := by
  rw [World.cell?, show W.heap[q]? = _ from h]
  simpa using hj
theorem HasCells.frozen {W : World} {q : Nat} {cs : List Value} {t : TypeId} (h : HasCells W q cs t) (j : Nat) : W.frozen? ⟨q, j, none⟩ = false := by
  rw [World.frozen?, show W.heap[q]? = _ from h]; simp
theorem HasCells.lt {W : World} {q : Nat} {cs : List Value} {t : TypeId} (h : HasCells W q cs t) : q < W.heap.size := (Array.getElem?_eq_some_iff.1 h).1
theorem HasCells.range {W : World} {q : Nat} {cs : List Value} {t : TypeId} (h : HasCells W q cs t) : W.rangeAt q 0 cs := fun j v hj => by rw [Nat.zero_add]; exact h.cell hj
theorem HasCells.there {W : World} {q : Nat} {cs : List Value} {t : TypeId} (h : HasCells W q cs t) (o k : Nat) (hk : o + k ≤ cs.length) : W.there q o k := fun j hj =>
  ⟨by rw [h.cell (List.getElem?_eq_getElem (by omega))]; rfl, h.frozen _⟩
theorem HasCells.new (w : World) (cs : List Value) (t : TypeId) : HasCells (w.alloc (.cells cs.toArray t)) w.heap.size cs t := World.alloc_heap_new w _
theorem HasCells.kept {W W' : World} {q : Nat} {cs : List Value} {t : TypeId} (h : HasCells W q cs t) (hb : W'.heap[q]? = W.heap[q]?) : HasCells W' q cs t := hb.trans h
theorem HasCells.below {B : Nat} {W W' : World} {q : Nat} {cs : List Value} {t : TypeId} (h : HasCells W q cs t) (hb : Below B W W') (hq : q < B) : HasCells W' q cs t := (hb.block q hq).trans h
theorem HasCells.after {W W' : World} {q : Nat} {cs : List Value} {t : TypeId} (h : HasCells W q cs t) (hb : Below W.heap.size W W') : HasCells W' q cs t := h.below hb h.lt
theorem HasCells.alloc {W : World} {q : Nat} {cs : List Value} {t : TypeId} (h : HasCells W q cs t) (o : Obj) : HasCells (W.alloc o) q cs t := h.kept (Below.heap_alloc W o q h.lt)
theorem HasCells.setOther {W : World} {q p i : Nat} {cs : List Value} {t : TypeId} (h : HasCells W q cs t) (hne : q ≠ p) (v : Value) : HasCells (W.setCell ⟨p, i, none⟩ v) q cs t := h.kept (Below.heap_setCell W ⟨p, i, none⟩ v q hne)
theorem results_cells {P : Program} {fn : Func} {p : Tmp} {ty : TypeId} (h : fn.results = #[.cell p ty]) (tmps : Array Value) (w : World) (g : Nat) (cs : List Value) (d : TypeDesc) (hp : tmps.getD p undef = .pointer (some ⟨g, 0, none⟩)) (hc : w.rangeAt g 0 cs)
    (hu : P.underlying ty = some d) (hd : d.isRow = true) (hi : (P.info? ty).map (·.size) = some cs.length) : (results fn tmps).run P w = .ok (.agg cs.toArray) w := by
  have hp' : tmps[p]?.getD undef = .pointer (some ⟨g, 0, none⟩) := by simpa using hp
  simp [results, h, hp', asAddr, run_loadVar_mid w g 0 ty cs d hc hu hd hi]
theorem results_cells2 {P : Program} {fn : Func} {p u : Tmp} {ty : TypeId} (h : fn.results = #[.cell p ty, .tmp u]) (tmps : Array Value) (w : World) (g : Nat) (cs : List Value) (d : TypeDesc) (hp : tmps.getD p undef = .pointer (some ⟨g, 0, none⟩)) (hc : w.rangeAt g 0 cs)
    (hu : P.underlying ty = some d) (hd : d.isRow = true) (hi : (P.info? ty).map (·.size) = some cs.length) : (results fn tmps).run P w = .ok (.tuple #[.agg cs.toArray, tmps.getD u undef]) w := by
  have hp' : tmps[p]?.getD undef = .pointer (some ⟨g, 0, none⟩) := by simpa using hp
  simp [results, h, hp', asAddr, run_loadVar_mid w g 0 ty cs d hc hu hd hi]
theorem step_storeK {P : Program} {ops : Array Oper} {o : Oper} {a : Act} {w : World} {K : Act → World → Prop} {Q : Exit → Act → World → Prop} {E : Prop} (hw : Region.wanted o (yielded ops a.tmps) = true) (ty : TypeId) (x y : Operand) (ho : o.op = .store ty x y)
    (b off : Nat) (cells : Array Value) (hx : a.eval x = .pointer (some ⟨b, off, none⟩)) (hy : a.eval y = .agg cells) (ht : w.there b off cells.size) (hi : (P.info? ty).map (·.size) = some cells.size) (h1 : cells.all (·.oneCell') = true)
    (hK : K (a.put o.dst undef) (w.setCells b off cells.toList)) : if Region.wanted o (yielded ops a.tmps) = true then Oper.wp P o a w K Q else E := by
  rw [if_pos hw]
  exact wp_store_mid ty x y ho b off cells hx hy ht hi h1 hK
theorem wpList_load_midK {P : Program} {ops : Array Oper} {rest : List Oper} {op : Oper} {a : Act} {w : World} {Q : Exit → Act → World → Prop} (hw : Region.wanted op (yielded ops a.tmps) = true) (ty : TypeId) (x : Operand) (ho : op.op = .load ty x)
    (b o : Nat) (hx : a.eval x = .pointer (some ⟨b, o, none⟩)) (cs : List Value) (d : TypeDesc) (hc : w.rangeAt b o cs)
    (hu : P.underlying ty = some d) (hd : d.isRow = true) (hi : (P.info? ty).map (·.size) = some cs.length)
    (h : wpList P ops Q rest (a.put op.dst (.agg cs.toArray)) w) : wpList P ops Q (op :: rest) a w :=
  wpList_step fun K hK => by rw [if_pos hw]; exact wp_load_mid ty x ho b o hx cs d hc hu hd hi (hK _ _ h)
end Go.Proofs.YtlelgbmbmajfmaaGreatDoor

namespace Go.Proofs.YtlelgbmbmajfmaaGreatDoor
universe u
theorem zq1 : type_of% @List.getElem_toArray.{u} := @List.getElem_toArray.{u}
theorem zq2 : type_of% @List.getElem_cons_zero.{u} := @List.getElem_cons_zero.{u}
theorem zq3 : type_of% @List.getElem_cons_succ.{u} := @List.getElem_cons_succ.{u}
theorem zq4 : type_of% @List.setIfInBounds_toArray.{u} := @List.setIfInBounds_toArray.{u}
theorem zq5 : type_of% @List.set_cons_zero.{u} := @List.set_cons_zero.{u}
theorem zq6 : type_of% @List.set_cons_succ.{u} := @List.set_cons_succ.{u}
end Go.Proofs.YtlelgbmbmajfmaaGreatDoor
