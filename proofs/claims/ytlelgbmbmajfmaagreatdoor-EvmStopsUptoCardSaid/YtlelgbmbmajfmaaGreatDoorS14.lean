/- What the walks take: EvmA. -/
import Derived.Test.YtlelgbmbmajfmaaGreatDoorS2
import Derived.Test.YtlelgbmbmajfmaaGreatDoorShelf
import Derived.Maps.RangeRun
namespace Go.Proofs.YtlelgbmbmajfmaaGreatDoor
open Go.RowKit Go.Shelf Go.Lib Go.MapKept
attribute [local go_sem] Oper.semAt_some
/-- a new key is laid into a map -/
theorem run_mapPut {P : Program} {w : World} {mty kt et : TypeId} {d : TypeDesc} {r : Nat} {es : Array MapEntry} {clock : Nat} {key value : Value} (hm : P.underlying mty = some (.map kt et)) (hd : P.underlying kt = some d) (hb : w.heap[r]? = some (.map es clock))
    (hks : ∀ x ∈ es.toList, IsKey d x.key) (hk : IsKey d key) (hnew : ∀ x ∈ es.toList, x.key ≠ key) : (Instr.mapUpdate mty (.map (some r)) key value).run P w = .ok () { w with heap := w.heap.setIfInBounds r (.map (es.push { key, val := value, born := clock }) (clock + 1)) } := by
  rcases findNow_spec hk es.toList 0 hks with ⟨h1, _⟩ | ⟨j, e, h1, h2, h3⟩
  · simp [Instr.mapUpdate, run_underlying hm, MapKept.run_getObj_map hb, MapKept.run_checkKey hd hk, MapKept.run_findKey hd h1, MapKept.run_setObj_map _ hb, Result.andThen]
  · exact absurd h3 (hnew e (List.mem_of_getElem? h2))
theorem below_put {B r : Nat} {w0 w : World} (h : Below B w0 w) (hr : B ≤ r) (o : Obj) : Below B w0 { w with heap := w.heap.setIfInBounds r o } :=
  ⟨h.os, h.tape, h.output, by simpa using h.size, fun j hj => by
    have : (w.heap.setIfInBounds r o)[j]? = w.heap[j]? := by rw [Array.getElem?_setIfInBounds_ne (by omega)]
    exact this.trans (h.block j hj)⟩
theorem insert_gate {P : Program} {ops : Array Oper} {Q : Exit → Act → World → Prop} {rest : List Oper} {a : Act} {w : World} {d : Option Tmp} {x y z : Operand} {ty : TypeId} {pos : String} {af : Array Edge} {g : Option (Nat × Bool)} (T : TypeId)
    (h : wpList P ops Q (Oper.mk d (Op.insert T x y z) ty pos af g :: rest) a w) : wpList P ops Q (Oper.mk d (Op.insert T x y z) ty pos af g :: rest) a w := h
theorem wpList_insertRow {P : Program} {ops : Array Oper} {rest : List Oper} {o : Oper} {a : Act} {w w0 : World} {Q : Exit → Act → World → Prop} {B : Nat} (hg : o.guard = none) (t : TypeId) (m x v : Operand) (ho : o.op = .insert t m x v) {kt et : TypeId}
    (hm : P.underlying t = some (.map kt et)) (hd : P.underlying kt = some .string) (r k : Nat) (hk : k < 21) (hb : w.heap[r]? = some (.map (rowsL.take k).toArray k)) (hme : a.eval m = .map (some r)) (hke : a.eval x = (entE k (rowsE.getD k ([], 0, 0, 0))).key) (hve : a.eval v = (entE k (rowsE.getD k ([], 0, 0, 0))).val)
    (hB : Below B w0 w) (hr : B ≤ r) (h : ∀ w', w'.heap[r]? = some (.map (rowsL.take (k + 1)).toArray (k + 1)) → Below B w0 w' → wpList P ops Q rest (a.put o.dst undef) w') : wpList P ops Q (o :: rest) a w := by
  refine wpList_plain hg fun K hK => ?_
  have hstr : ∀ y ∈ (rowsL.take k).toArray.toList, IsKey .string y.key := fun y hy => by
    obtain ⟨q, _, hq, _⟩ := rowsL_mem (List.mem_of_mem_take (by simpa using hy))
    rw [hq]; trivial
  have hnew : ∀ y ∈ (rowsL.take k).toArray.toList, y.key ≠ (entE k (rowsE.getD k ([], 0, 0, 0))).key := fun y hy => by
    have hy' : y ∈ rowsL.take k := by simpa using hy
    obtain ⟨j, hj, rfl⟩ := List.mem_iff_getElem.1 hy'
    rw [List.length_take] at hj
    have e : rowsL[j]? = some ((rowsL.take k)[j]) := by rw [List.getElem_take, List.getElem?_eq_getElem]
    rw [rowsL_at (by omega)] at e
    rw [← Option.some.inj e]
    exact rows_apart (by omega) hk (by omega)
  have hrun := run_mapPut (P := P) (key := (entE k (rowsE.getD k ([], 0, 0, 0))).key) (value := (entE k (rowsE.getD k ([], 0, 0, 0))).val) hm hd hb hstr trivial hnew
  have e2 : (rowsL.take k).toArray.push { key := (entE k (rowsE.getD k ([], 0, 0, 0))).key, val := (entE k (rowsE.getD k ([], 0, 0, 0))).val, born := k } = (rowsL.take (k + 1)).toArray := by
    rw [List.take_add_one, rowsL_at hk]
    simp [entE]
  rw [e2] at hrun
  have hlt : r < w.heap.size := (Array.getElem?_eq_some_iff.1 hb).1
  have h9 := hK _ _ (h { w with heap := w.heap.setIfInBounds r (.map (rowsL.take (k + 1)).toArray (k + 1)) } (by show (w.heap.setIfInBounds r _)[r]? = _; simp [hlt]) (below_put hB hr _))
  obtain ⟨ky, hky⟩ : ∃ x, (entE k (rowsE.getD k ([], 0, 0, 0))).key = x := ⟨_, rfl⟩
  obtain ⟨vy, hvy⟩ : ∃ x, (entE k (rowsE.getD k ([], 0, 0, 0))).val = x := ⟨_, rfl⟩
  rw [hky] at hrun hke
  rw [hvy] at hrun hve
  unfold Oper.wp
  simp only [execOp, ho, hme, hke, hve]
  simp only [Sem.run_bind, hrun, Result.andThen]
  exact h9
set_option maxRecDepth 100000 in
set_option maxHeartbeats 6400000 in
theorem rows_any (w : World) : Calls Tryz.prog 120 #[] w fun e w' => e = .returned (.map (some w.heap.size)) ∧ w'.heap[w.heap.size]? = some (.map rowsL.toArray 21) ∧ Below w.heap.size w w' := by
  have hmm := @run_makeMap Tryz.prog
  have hb : (w.alloc (.map #[] 0)).heap[w.heap.size]? = some (.map (rowsL.take 0).toArray 0) := heap_alloc_new w _
  have hB : Below w.heap.size w (w.alloc (.map #[] 0)) := (Below.refl _ _).alloc (Nat.le_refl _) _
  go_enter Tryz.func120, Tryz.ntmps120
  go_wp2_with ((with_reducible refine insert_gate 194 ?_); refine wpList_insertRow rfl 194 _ _ _ rfl Tryz.underlying194 Tryz.underlying9 w.heap.size _ (by omega) hb rfl rfl rfl hB (Nat.le_refl _) ?_; clear hb hB; intro w1 hb hB)
  go_ret
  exact ⟨rfl, by rw [hb, List.take_of_length_le (by decide)], hB⟩
end Go.Proofs.YtlelgbmbmajfmaaGreatDoor
