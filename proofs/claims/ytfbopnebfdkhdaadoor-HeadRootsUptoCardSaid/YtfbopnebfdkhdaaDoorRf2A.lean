/- Contracts of pharosref02's small functions: turn, words, spread; rows of words read and stored whole. -/
import Derived.Test.YtfbopnebfdkhdaaDoorShaB
import Derived.Deep.MidRow
import Derived.Deep.LoopGhost
import Derived.StillTailTactics
import Derived.IntWalk
import Derived.Deep.QuietTactic
import Derived.BigQuiet
namespace Go.Proofs.YtfbopnebfdkhdaaDoor
open Go.RowKit
attribute [local go_sem] wv_and wv_or wv_xor wv_not wv_add wv_addw wv_shr3 wv_shr10 rotz_7 rotz_17 rotz_18 rotz_19 wv_shl24 wv_shl24w wv_shl16 wv_shl16w wv_shl8 wv_shl8w

/-- words as the cells of an array -/
def vals32 (l : List UInt32) : List Value := l.map fun x => Value.int .u32 (wv x)
theorem vals32_length (l : List UInt32) : (vals32 l).length = l.length := by simp [vals32]
theorem Row32.range {W : World} {b : Nat} {l : List UInt32} (h : Row32 W b l) : W.rangeAt b 0 (vals32 l) := fun j v hv => by
  unfold vals32 at hv
  rw [List.getElem?_map] at hv
  cases hx : l[j]? with
  | none => rw [hx] at hv; cases hv
  | some x =>
    rw [hx] at hv
    cases hv
    obtain ⟨hj, rfl⟩ := List.getElem?_eq_some_iff.1 hx
    rw [Nat.zero_add]
    exact h.1 j hj
theorem Row32.there {W : World} {b : Nat} {l : List UInt32} (h : Row32 W b l) : W.there b 0 l.length := fun j hj => by
  rw [Nat.zero_add, h.1 j hj]
  exact ⟨rfl, h.2 j⟩
theorem frozen_setCells (b : Nat) : ∀ (vs : List Value) (o : Nat) (w : World) (a : Addr), (w.setCells b o vs).frozen? a = w.frozen? a
  | [], _, _, _ => rfl
  | v :: vs, o, w, a => by
    show ((w.setCell ⟨b, o, none⟩ v).setCells b (o + 1) vs).frozen? a = _
    rw [frozen_setCells b vs, World.frozen?_setCell]
theorem grown_setCells (b : Nat) : ∀ (vs : List Value) (o : Nat) (w0 w : World), w0.grownBy w (some b) → w0.grownBy (w.setCells b o vs) (some b)
  | [], _, _, _, h => h
  | v :: vs, o, w0, w, h => grown_setCells b vs (o + 1) w0 (w.setCell ⟨b, o, none⟩ v) (grown_set h o v)
theorem Row32.setCells {W : World} {b : Nat} {l l0 : List UInt32} (h : Row32 W b l0) (hl : l0.length = l.length) : Row32 (W.setCells b 0 (vals32 l)) b l := by
  refine ⟨fun j hj => ?_, fun j => by rw [frozen_setCells]; exact h.2 j⟩
  have ht := h.there
  rw [hl, ← vals32_length] at ht
  have := World.rangeAt_setCells_same W b 0 (vals32 l) ht j (.int .u32 (wv l[j])) (by simp [vals32, hj])
  rw [Nat.zero_add] at this
  exact this
theorem oneCell32 (l : List UInt32) : (vals32 l).toArray.all (·.oneCell') = true := all_oneCell_toArray (fun v hv => by
  obtain ⟨x, _, rfl⟩ := List.mem_map.1 hv; rfl)
theorem grownBy_refl (w : World) (r : Option Nat) : w.grownBy w r := ⟨rfl, rfl, rfl, Nat.le_refl _, fun _ _ _ => rfl⟩
/-- a row of words is read whole -/
theorem wpList_load32 {P : Program} {ops : Array Oper} {rest : List Oper} {op : Oper} {a : Act} {w : World} {Q : Exit → Act → World → Prop} (hgd : op.guard = none) (ty : TypeId) (x : Operand) (ho : op.op = .load ty x)
    (b : Nat) (hx : a.eval x = .pointer (some ⟨b, 0, none⟩)) (l : List UInt32) (hR : Row32 w b l) (d : TypeDesc)
    (hu : P.underlying ty = some d) (hd : d.isRow = true) (hi : (P.info? ty).map (·.size) = some l.length)
    (h : wpList P ops Q rest (a.put op.dst (.agg (vals32 l).toArray)) w) : wpList P ops Q (op :: rest) a w :=
  wpList_load_mid hgd ty x ho b 0 hx (vals32 l) d hR.range hu hd (by rw [vals32_length]; exact hi) h
/-- a row of words is stored whole -/
theorem wpList_store32 {P : Program} {ops : Array Oper} {rest : List Oper} {op : Oper} {a : Act} {w : World} {Q : Exit → Act → World → Prop} (hgd : op.guard = none) (ty : TypeId) (x y : Operand) (ho : op.op = .store ty x y)
    (b : Nat) (l l0 : List UInt32) (hx : a.eval x = .pointer (some ⟨b, 0, none⟩)) (hy : a.eval y = .agg (vals32 l).toArray) (hR : Row32 w b l0) (hl : l0.length = l.length)
    (hi : (P.info? ty).map (·.size) = some l.length)
    (h : ∀ w', Row32 w' b l → w.grownBy w' (some b) → wpList P ops Q rest (a.put op.dst undef) w') : wpList P ops Q (op :: rest) a w := by
  have ht := hR.there
  rw [hl, ← vals32_length] at ht
  refine wpList_store_mid hgd ty x y ho b 0 (vals32 l).toArray hx hy (by rw [List.size_toArray]; exact ht) (by rw [List.size_toArray, vals32_length]; exact hi) (oneCell32 l) ?_
  rw [List.toList_toArray]
  exact h _ (hR.setCells hl) (grown_setCells b _ 0 w w (grownBy_refl _ _))
theorem results_cell32 {P : Program} {fn : Func} {p : Tmp} {ty : TypeId} (h : fn.results = #[.cell p ty]) (tmps : Array Value) (w : World) (b : Nat) (l : List UInt32) (d : TypeDesc)
    (hp : tmps.getD p undef = .pointer (some ⟨b, 0, none⟩)) (hR : Row32 w b l)
    (hu : P.underlying ty = some d) (hd : d.isRow = true) (hi : (P.info? ty).map (·.size) = some l.length) :
    (results fn tmps).run P w = .ok (.agg (vals32 l).toArray) w := by
  have hp' : tmps[p]?.getD undef = .pointer (some ⟨b, 0, none⟩) := by simpa using hp
  simp [results, h, hp', asAddr, run_loadVar_mid w b 0 ty (vals32 l) d hR.range hu hd (by rw [vals32_length]; exact hi)]
/-- a walk that stands still here -/
def Halt (p : Prop) : Prop := p
theorem Halt.mk {p : Prop} (h : p) : Halt p := h
theorem wpList_haltStore {P : Program} {ops : Array Oper} {rest : List Oper} {op : Oper} {a : Act} {w : World} {Q : Exit → Act → World → Prop} (ty : TypeId) (x y : Operand) (_ho : op.op = .store ty x y)
    (h : Halt (wpList P ops Q (op :: rest) a w)) : wpList P ops Q (op :: rest) a w := h
theorem wpList_haltLoad {P : Program} {ops : Array Oper} {rest : List Oper} {op : Oper} {a : Act} {w : World} {Q : Exit → Act → World → Prop} (ty : TypeId) (x : Operand) (_ho : op.op = .load ty x)
    (h : Halt (wpList P ops Q (op :: rest) a w)) : wpList P ops Q (op :: rest) a w := h
/-- only draws lie between two worlds -/
def Drawn (w w' : World) : Prop := ∃ n, w' = w.drewN n
theorem Drawn.heap {w w' : World} (h : Drawn w w') : w'.heap = w.heap := by
  obtain ⟨n, rfl⟩ := h
  exact World.heap_drewN _ _
theorem Drawn.trans {a b c : World} (h : Drawn a b) (k : Drawn b c) : Drawn a c := by
  obtain ⟨n, rfl⟩ := h
  obtain ⟨m, rfl⟩ := k
  exact ⟨n + m, by simp only [World.drewN, Nat.add_assoc]⟩
theorem Drawn.row {w w' : World} {b : Nat} {l : List UInt32} (h : Drawn w w') (hR : Row32 w b l) : Row32 w' b l := hR.kept (by rw [h.heap])
theorem Drawn.below {B : Nat} {a w w' : World} (h : Drawn w w') (hb : Below B a w) : Below B a w' := by
  obtain ⟨n, rfl⟩ := h
  exact Below.drewN hb n
theorem info64 : (Tryd.prog.info? 140).map (·.size) = some 64 := by kernel_rfl
theorem info8 : (Tryd.prog.info? 113).map (·.size) = some 8 := by kernel_rfl
theorem rturn_2 (x : UInt32) (w : World) : Calls Tryd.prog 110 #[.int .u32 (wv x), .int .i64 2] w fun e w' => e = .returned (.int .u32 (wv (rotr x 2))) ∧ Drawn w w' := by
  go_enter Tryd.func110, Tryd.ntmps110
  go_wp2_with fail
  go_quiet (fail)
  go_wp2
  go_ret
  refine ⟨ret_u32 ?_, ⟨_, rfl⟩⟩
  first | rw [wv_shl30, wv_shr2, wv_or] | rw [wv_shl30w, wv_shr2, wv_or]
  rfl
theorem rturn_6 (x : UInt32) (w : World) : Calls Tryd.prog 110 #[.int .u32 (wv x), .int .i64 6] w fun e w' => e = .returned (.int .u32 (wv (rotr x 6))) ∧ Drawn w w' := by
  go_enter Tryd.func110, Tryd.ntmps110
  go_wp2_with fail
  go_quiet (fail)
  go_wp2
  go_ret
  refine ⟨ret_u32 ?_, ⟨_, rfl⟩⟩
  first | rw [wv_shl26, wv_shr6, wv_or] | rw [wv_shl26w, wv_shr6, wv_or]
  rfl
theorem rturn_7 (x : UInt32) (w : World) : Calls Tryd.prog 110 #[.int .u32 (wv x), .int .i64 7] w fun e w' => e = .returned (.int .u32 (wv (rotr x 7))) ∧ Drawn w w' := by
  go_enter Tryd.func110, Tryd.ntmps110
  go_wp2_with fail
  go_quiet (fail)
  go_wp2
  go_ret
  refine ⟨ret_u32 ?_, ⟨_, rfl⟩⟩
  first | rw [wv_shl25, wv_shr7, wv_or] | rw [wv_shl25w, wv_shr7, wv_or]
  rfl
theorem rturn_11 (x : UInt32) (w : World) : Calls Tryd.prog 110 #[.int .u32 (wv x), .int .i64 11] w fun e w' => e = .returned (.int .u32 (wv (rotr x 11))) ∧ Drawn w w' := by
  go_enter Tryd.func110, Tryd.ntmps110
  go_wp2_with fail
  go_quiet (fail)
  go_wp2
  go_ret
  refine ⟨ret_u32 ?_, ⟨_, rfl⟩⟩
  first | rw [wv_shl21, wv_shr11, wv_or] | rw [wv_shl21w, wv_shr11, wv_or]
  rfl
theorem rturn_13 (x : UInt32) (w : World) : Calls Tryd.prog 110 #[.int .u32 (wv x), .int .i64 13] w fun e w' => e = .returned (.int .u32 (wv (rotr x 13))) ∧ Drawn w w' := by
  go_enter Tryd.func110, Tryd.ntmps110
  go_wp2_with fail
  go_quiet (fail)
  go_wp2
  go_ret
  refine ⟨ret_u32 ?_, ⟨_, rfl⟩⟩
  first | rw [wv_shl19, wv_shr13, wv_or] | rw [wv_shl19w, wv_shr13, wv_or]
  rfl
theorem rturn_17 (x : UInt32) (w : World) : Calls Tryd.prog 110 #[.int .u32 (wv x), .int .i64 17] w fun e w' => e = .returned (.int .u32 (wv (rotr x 17))) ∧ Drawn w w' := by
  go_enter Tryd.func110, Tryd.ntmps110
  go_wp2_with fail
  go_quiet (fail)
  go_wp2
  go_ret
  refine ⟨ret_u32 ?_, ⟨_, rfl⟩⟩
  first | rw [wv_shl15, wv_shr17, wv_or] | rw [wv_shl15w, wv_shr17, wv_or]
  rfl
theorem rturn_18 (x : UInt32) (w : World) : Calls Tryd.prog 110 #[.int .u32 (wv x), .int .i64 18] w fun e w' => e = .returned (.int .u32 (wv (rotr x 18))) ∧ Drawn w w' := by
  go_enter Tryd.func110, Tryd.ntmps110
  go_wp2_with fail
  go_quiet (fail)
  go_wp2
  go_ret
  refine ⟨ret_u32 ?_, ⟨_, rfl⟩⟩
  first | rw [wv_shl14, wv_shr18, wv_or] | rw [wv_shl14w, wv_shr18, wv_or]
  rfl
theorem rturn_19 (x : UInt32) (w : World) : Calls Tryd.prog 110 #[.int .u32 (wv x), .int .i64 19] w fun e w' => e = .returned (.int .u32 (wv (rotr x 19))) ∧ Drawn w w' := by
  go_enter Tryd.func110, Tryd.ntmps110
  go_wp2_with fail
  go_quiet (fail)
  go_wp2
  go_ret
  refine ⟨ret_u32 ?_, ⟨_, rfl⟩⟩
  first | rw [wv_shl13, wv_shr19, wv_or] | rw [wv_shl13w, wv_shr19, wv_or]
  rfl
theorem rturn_22 (x : UInt32) (w : World) : Calls Tryd.prog 110 #[.int .u32 (wv x), .int .i64 22] w fun e w' => e = .returned (.int .u32 (wv (rotr x 22))) ∧ Drawn w w' := by
  go_enter Tryd.func110, Tryd.ntmps110
  go_wp2_with fail
  go_quiet (fail)
  go_wp2
  go_ret
  refine ⟨ret_u32 ?_, ⟨_, rfl⟩⟩
  first | rw [wv_shl10, wv_shr22, wv_or] | rw [wv_shl10w, wv_shr22, wv_or]
  rfl
theorem rturn_25 (x : UInt32) (w : World) : Calls Tryd.prog 110 #[.int .u32 (wv x), .int .i64 25] w fun e w' => e = .returned (.int .u32 (wv (rotr x 25))) ∧ Drawn w w' := by
  go_enter Tryd.func110, Tryd.ntmps110
  go_wp2_with fail
  go_quiet (fail)
  go_wp2
  go_ret
  refine ⟨ret_u32 ?_, ⟨_, rfl⟩⟩
  first | rw [wv_shl7, wv_shr25, wv_or] | rw [wv_shl7w, wv_shr25, wv_or]
  rfl
theorem rturn (x : UInt32) (n : Int) (w : World) (hn : n = 2 ∨ n = 6 ∨ n = 7 ∨ n = 11 ∨ n = 13 ∨ n = 17 ∨ n = 18 ∨ n = 19 ∨ n = 22 ∨ n = 25) : Calls Tryd.prog 110 #[.int .u32 (wv x), .int .i64 n] w fun e w' => e = .returned (.int .u32 (wv (rotz x n))) ∧ Drawn w w' := by
  rcases hn with rfl | rfl | rfl | rfl | rfl | rfl | rfl | rfl | rfl | rfl
  · exact rturn_2 x w
  · exact rturn_6 x w
  · exact rturn_7 x w
  · exact rturn_11 x w
  · exact rturn_13 x w
  · exact rturn_17 x w
  · exact rturn_18 x w
  · exact rturn_19 x w
  · exact rturn_22 x w
  · exact rturn_25 x w
theorem ktab_vals : #[Value.int .u32 1116352408, Value.int .u32 1899447441, Value.int .u32 3049323471, Value.int .u32 3921009573, Value.int .u32 961987163, Value.int .u32 1508970993, Value.int .u32 2453635748, Value.int .u32 2870763221, Value.int .u32 3624381080, Value.int .u32 310598401, Value.int .u32 607225278, Value.int .u32 1426881987, Value.int .u32 1925078388, Value.int .u32 2162078206, Value.int .u32 2614888103, Value.int .u32 3248222580, Value.int .u32 3835390401, Value.int .u32 4022224774, Value.int .u32 264347078, Value.int .u32 604807628, Value.int .u32 770255983, Value.int .u32 1249150122, Value.int .u32 1555081692, Value.int .u32 1996064986, Value.int .u32 2554220882, Value.int .u32 2821834349, Value.int .u32 2952996808, Value.int .u32 3210313671, Value.int .u32 3336571891, Value.int .u32 3584528711, Value.int .u32 113926993, Value.int .u32 338241895, Value.int .u32 666307205, Value.int .u32 773529912, Value.int .u32 1294757372, Value.int .u32 1396182291, Value.int .u32 1695183700, Value.int .u32 1986661051, Value.int .u32 2177026350, Value.int .u32 2456956037, Value.int .u32 2730485921, Value.int .u32 2820302411, Value.int .u32 3259730800, Value.int .u32 3345764771, Value.int .u32 3516065817, Value.int .u32 3600352804, Value.int .u32 4094571909, Value.int .u32 275423344, Value.int .u32 430227734, Value.int .u32 506948616, Value.int .u32 659060556, Value.int .u32 883997877, Value.int .u32 958139571, Value.int .u32 1322822218, Value.int .u32 1537002063, Value.int .u32 1747873779, Value.int .u32 1955562222, Value.int .u32 2024104815, Value.int .u32 2227730452, Value.int .u32 2361852424, Value.int .u32 2428436474, Value.int .u32 2756734187, Value.int .u32 3204031479, Value.int .u32 3329325298] = (vals32 ktab).toArray := by kernel_rfl
set_option maxRecDepth 100000 in
set_option maxHeartbeats 1600000 in
theorem words_any (w : World) : Calls Tryd.prog 109 #[] w fun e w' => e = .returned (.agg (vals32 ktab).toArray) ∧ Below w.heap.size w w' := by
  go_enter Tryd.func109, Tryd.ntmps109
  go_wp2_with (with_reducible refine wpList_haltStore 140 _ _ rfl ?_)
  refine Halt.mk ?_
  rw [ktab_vals]
  refine wpList_store32 rfl _ _ _ rfl w.heap.size ktab (List.replicate 64 0) rfl rfl (Row32.new w (List.replicate 64 0) _) rfl info64 ?_
  intro w' hR hg
  go_wp2
  refine bodyPost_ret (v := .agg (vals32 ktab).toArray) (results_cell32 rfl _ _ w.heap.size ktab _ (by rfl) hR Tryd.underlying140 rfl info64) rfl ⟨rfl, ?_⟩
  exact ((Below.refl _ _).alloc (Nat.le_refl _) _).grown hg (by simp) (fun r e => by cases e; exact Nat.le_refl _)
theorem sh8 (x : UInt32) : (x <<< 8).toBitVec = x.toBitVec <<< (8 : Nat) := by rfl
theorem sh16 (x : UInt32) : (x <<< 16).toBitVec = x.toBitVec <<< (16 : Nat) := by rfl
theorem sh24 (x : UInt32) : (x <<< 24).toBitVec = x.toBitVec <<< (24 : Nat) := by rfl
theorem four (a b c d : UInt32) : ((((((0 : UInt32) <<< 8 ||| a) <<< 8) ||| b) <<< 8 ||| c) <<< 8 ||| d) = ((a <<< 24 ||| b <<< 16) ||| c <<< 8) ||| d := by
  apply UInt32.toBitVec_inj.1
  simp only [UInt32.toBitVec_or, sh8, sh16, sh24, BitVec.shiftLeft_or_distrib, ← BitVec.shiftLeft_add]
  simp
theorem word_of4 (s : List UInt8) (t : Nat) (a b c d : UInt8) (h0 : s[4 * t]? = some a) (h1 : s[4 * t + 1]? = some b) (h2 : s[4 * t + 2]? = some c) (h3 : s[4 * t + 3]? = some d) :
    ((a.toUInt32 <<< 24 ||| b.toUInt32 <<< 16) ||| c.toUInt32 <<< 8) ||| d.toUInt32 = word32 s t := by
  have e : (s.drop (4 * t)).take 4 = [a, b, c, d] := by
    apply List.ext_getElem?
    intro i
    rw [List.getElem?_take]
    split
    · rename_i hi
      rw [List.getElem?_drop]
      match i, hi with
      | 0, _ => exact h0
      | 1, _ => exact h1
      | 2, _ => exact h2
      | 3, _ => exact h3
    · rw [List.getElem?_eq_none]; simp; omega
  unfold word32 wfold
  rw [e, ← four]
  rfl
/-- the bytes of a block lie in a row -/
def Cells8 (W : World) (bk o : Nat) (s : List UInt8) : Prop := ∀ j x, s[j]? = some x → W.cell? ⟨bk, o + j, none⟩ = some (.int .u8 (x.toNat : Int))
theorem Cells8.below {w W : World} {bk o : Nat} {s : List UInt8} (h : Cells8 w bk o s) (hb : Below w.heap.size w W) : Cells8 W bk o s := fun j x hj =>
  (hb.cell (p := ⟨bk, o + j, none⟩) (World.block_lt_of_cell? w _ (h j x hj))).trans (h j x hj)
theorem Row32.setg {W : World} {b : Nat} {l : List UInt32} (h : Row32 W b l) {j : Nat} {x : UInt32} (hj : j < l.length) {l' : List UInt32} (hl : l.set j x = l') : Row32 (W.setCell ⟨b, j, none⟩ (.int .u32 (wv x))) b l' := hl ▸ h.set j x hj

set_option maxRecDepth 100000 in
set_option maxHeartbeats 1600000 in
theorem spread_any (bk o c : Nat) (s : List UInt8) (w : World) (hs : s.length = 64) (hc : Cells8 w bk o s) :
    Calls Tryd.prog 108 #[.slice (some ⟨bk, o, none⟩) 64 c] w fun e w' => e = .returned (.agg (vals32 (words1 s 64)).toArray) ∧ Below w.heap.size w w' := by
  have HS := Lib.hid hs
  have HC := Lib.hid hc
  clear hs hc
  have hz0 := Row32.new w (List.replicate 64 0) 140
  have hz1 := Row32.new (w.alloc (.cells ((List.replicate 64 (0 : UInt32)).map fun x => Value.int .u32 (wv x)).toArray 140)) (List.replicate 64 0) 140
  rw [World.size_alloc] at hz1
  have hz0' := hz0.kept (W' := (w.alloc (.cells ((List.replicate 64 (0 : UInt32)).map fun x => Value.int .u32 (wv x)).toArray 140)).alloc (.cells ((List.replicate 64 (0 : UInt32)).map fun x => Value.int .u32 (wv x)).toArray 140)) (Below.heap_alloc _ _ _ (by simp))
  have HZ0 := Lib.hid hz0'
  have HZ1 := Lib.hid hz1
  clear hz0 hz1 hz0'
  go_enter Tryd.func108, Tryd.ntmps108
  go_wp2_with fail
  go_loopw [4] (fun i wr => ∃ t : Nat, t ≤ 64 ∧ i = .int .i64 t ∧ Aside (Row32 wr (w.heap.size + 1) (words1 s t)) ∧ Aside (Row32 wr w.heap.size (List.replicate 64 0)) ∧ Aside (Below w.heap.size w wr)) (fun i _ => 64 - (intOf i).toNat)
  case atStart =>
    refine ⟨0, by omega, rfl, ?_, HZ0.out, ?_⟩
    · exact HZ1.out
    · exact ((Below.refl _ _).alloc (Nat.le_refl _) _).alloc (by simp) _
  case round =>
    clear HZ0 HZ1
    obtain ⟨t, ht, rfl, HR, HZ, HB⟩ := hrel
    by_cases hlt : t < 64
    · have g1 : (0 : Int) ≤ t := by omega
      have g2 : (t : Int) < 64 := by omega
      have hl4 : t < (words1 s t).length := by rw [words1_length]; omega
      by_cases h16 : t < 16
      · have g3 : (t : Int) < 16 := by omega
        obtain ⟨x0, e0⟩ : ∃ x, s[4 * t]? = some x := ⟨_, List.getElem?_eq_getElem (by rw [HS.out]; omega)⟩
        obtain ⟨x1, e1⟩ : ∃ x, s[4 * t + 1]? = some x := ⟨_, List.getElem?_eq_getElem (by rw [HS.out]; omega)⟩
        obtain ⟨x2, e2⟩ : ∃ x, s[4 * t + 2]? = some x := ⟨_, List.getElem?_eq_getElem (by rw [HS.out]; omega)⟩
        obtain ⟨x3, e3⟩ : ∃ x, s[4 * t + 3]? = some x := ⟨_, List.getElem?_eq_getElem (by rw [HS.out]; omega)⟩
        have hcr := HC.out.below HB.out
        have c0 := hcr _ _ e0
        have c1 := hcr _ _ e1
        have c2 := hcr _ _ e2
        have c3 := hcr _ _ e3
        have hw := word_of4 s t x0 x1 x2 x3 e0 e1 e2 e3
        have hR2 := (Row32.kept (W' := wr.drew) HR.out rfl).setg hl4 ((congrArg (fun x => (words1 s t).set t x) (hw.trans (wAt_low s t h16).symm)).trans (words1_step s t))
        have HR2 := Lib.hid hR2
        clear hcr hw hR2 e0 e1 e2 e3
        have v0 : IntKind.u32.wrap (x0.toNat : Int) = wv x0.toUInt32 := byte_word x0
        have v1 : IntKind.u32.wrap (x1.toNat : Int) = wv x1.toUInt32 := byte_word x1
        have v2 : IntKind.u32.wrap (x2.toNat : Int) = wv x2.toUInt32 := byte_word x2
        have v3 : IntKind.u32.wrap (x3.toNat : Int) = wv x3.toUInt32 := byte_word x3
        have q0 : IntKind.i64.wrap (4 * (t : Int)) = 4 * (t : Int) := IntWalk.i64_in _ (by omega)
        have q1 : IntKind.i64.wrap (4 * (t : Int) + 1) = 4 * (t : Int) + 1 := IntWalk.i64_in _ (by omega)
        have q2 : IntKind.i64.wrap (4 * (t : Int) + 2) = 4 * (t : Int) + 2 := IntWalk.i64_in _ (by omega)
        have q3 : IntKind.i64.wrap (4 * (t : Int) + 3) = 4 * (t : Int) + 3 := IntWalk.i64_in _ (by omega)
        have n0 : (4 * (t : Int)).toNat = 4 * t := by omega
        have n1 : (4 * (t : Int) + 1).toNat = 4 * t + 1 := by omega
        have n2 : (4 * (t : Int) + 2).toNat = 4 * t + 2 := by omega
        have n3 : (4 * (t : Int) + 3).toNat = 4 * t + 3 := by omega
        have b0 : (0 : Int) ≤ 4 * (t : Int) := by omega
        have b1 : (0 : Int) ≤ 4 * (t : Int) + 1 := by omega
        have b2 : (0 : Int) ≤ 4 * (t : Int) + 2 := by omega
        have b3 : (0 : Int) ≤ 4 * (t : Int) + 3 := by omega
        have d0 : 4 * (t : Int) < 64 := by omega
        have d1 : 4 * (t : Int) + 1 < 64 := by omega
        have d2 : 4 * (t : Int) + 2 < 64 := by omega
        have d3 : 4 * (t : Int) + 3 < 64 := by omega
        have hcell := HR.out.1 t hl4
        rw [words1_at, if_neg (Nat.lt_irrefl t)] at hcell
        have hfz := HR.out.2 t
        go_wp2_with fail
        go_still_tail 35, (by kernel_rfl)
        change wpList _ _ _ _ _ wr.drew
        have HB2 := Lib.hid (HB.out.drew.setCell (p := ⟨w.heap.size + 1, t, none⟩) (by simp) (.int .u32 (wv (((x0.toUInt32 <<< 24 ||| x1.toUInt32 <<< 16) ||| x2.toUInt32 <<< 8) ||| x3.toUInt32))))
        have HZ2 := Lib.hid (Row32.other (i := t) (v := (.int .u32 (wv (((x0.toUInt32 <<< 24 ||| x1.toUInt32 <<< 16) ||| x2.toUInt32 <<< 8) ||| x3.toUInt32)))) (Row32.kept (W' := wr.drew) HZ.out rfl) (show w.heap.size ≠ w.heap.size + 1 by omega))
        have hc2 : wr.drew.cell? ⟨w.heap.size + 1, t, none⟩ = some (.int .u32 (wv 0)) := hcell
        have hf2 : wr.drew.frozen? ⟨w.heap.size + 1, t, none⟩ = false := hfz
        clear hl4 hcell hfz
        obtain ⟨w4, hw4'⟩ : ∃ w4, wr.drew = w4 := ⟨_, rfl⟩
        rw [hw4'] at HR2 HB2 HZ2 hc2 hf2 ⊢
        clear hw4' HR HB HZ c0 c1 c2 c3
        go_wp2
        go_roundw
        case rel => exact ⟨t + 1, by omega, by go_num, HR2.out, HZ2.out, HB2.out⟩
        case measure => simp [intOf]; omega
      · have g3 : (16 : Int) ≤ t := by omega
        have g4 : ¬ (t : Int) < 16 := by omega
        have w1 : IntKind.i64.wrap ((t : Int) - 15) = (t : Int) - 15 := IntWalk.i64_in _ (by omega)
        have w2 : IntKind.i64.wrap ((t : Int) - 2) = (t : Int) - 2 := IntWalk.i64_in _ (by omega)
        have w3 : IntKind.i64.wrap ((t : Int) - 16) = (t : Int) - 16 := IntWalk.i64_in _ (by omega)
        have w4 : IntKind.i64.wrap ((t : Int) - 7) = (t : Int) - 7 := IntWalk.i64_in _ (by omega)
        have n1 : ((t : Int) - 15).toNat = t - 15 := by omega
        have n2 : ((t : Int) - 2).toNat = t - 2 := by omega
        have n3 : ((t : Int) - 16).toNat = t - 16 := by omega
        have n4 : ((t : Int) - 7).toNat = t - 7 := by omega
        have b1 : (0 : Int) ≤ (t : Int) - 15 := by omega
        have b2 : (0 : Int) ≤ (t : Int) - 2 := by omega
        have b3 : (0 : Int) ≤ (t : Int) - 16 := by omega
        have b4 : (0 : Int) ≤ (t : Int) - 7 := by omega
        have e1 : (15 : Int) ≤ t := by omega
        have e2 : (2 : Int) ≤ t := by omega
        have e4 : (7 : Int) ≤ t := by omega
        have d1 : (t : Int) - 15 < 64 := by omega
        have d2 : (t : Int) - 2 < 64 := by omega
        have d3 : (t : Int) - 16 < 64 := by omega
        have d4 : (t : Int) - 7 < 64 := by omega
        have c1 := HR.out.word (t - 15) (by omega) (by omega)
        have c2 := HR.out.word (t - 2) (by omega) (by omega)
        go_wp2_with fail
        refine (rturn _ _ _ (by decide)).mono ?_
        rintro e u1 ⟨rfl, hd1⟩
        go_wp2_with fail
        refine (rturn _ _ _ (by decide)).mono ?_
        rintro e u2 ⟨rfl, hd2⟩
        go_wp2_with fail
        refine (rturn _ _ _ (by decide)).mono ?_
        rintro e u3 ⟨rfl, hd3⟩
        go_wp2_with fail
        refine (rturn _ _ _ (by decide)).mono ?_
        rintro e wq ⟨rfl, hd4⟩
        have hD := ((hd1.trans hd2).trans hd3).trans hd4
        have HR' := Lib.hid (hD.row HR.out)
        have HZ' := Lib.hid (hD.row HZ.out)
        have HB' := Lib.hid (hD.below HB.out)
        clear hd1 hd2 hd3 hd4 hD HR HB HZ c1 c2
        have c3 := HR'.out.word (t - 16) (by omega) (by omega)
        have c4 := HR'.out.word (t - 7) (by omega) (by omega)
        have hc5 := HR'.out.1 t hl4
        have hf5 := HR'.out.2 t
        rw [words1_at, if_neg (Nat.lt_irrefl t)] at hc5
        have hx : ((wAt s (t - 16) + sg0 (wAt s (t - 15))) + wAt s (t - 7)) + sg1 (wAt s (t - 2)) = wAt s t := by
          rw [wAt_high s t (by omega)]; ac_rfl
        unfold sg0 sg1 at hx
        have hR2 := (Row32.kept (W' := wq.drew) HR'.out rfl).setg hl4 ((congrArg (fun x => (words1 s t).set t x) hx).trans (words1_step s t))
        have HR2 := Lib.hid hR2
        have HX := Lib.hid hx
        clear hR2 hx
        go_wp2_with fail
        go_still_tail 15, (by kernel_rfl)
        change wpList _ _ _ _ _ wq.drew
        have HB2 := Lib.hid (HB'.out.drew.setCell (p := ⟨w.heap.size + 1, t, none⟩) (by simp) (.int .u32 (wv (wAt s t))))
        have HZ2 := Lib.hid (Row32.other (i := t) (v := .int .u32 (wv (wAt s t))) (Row32.kept (W' := wq.drew) HZ'.out rfl) (show w.heap.size ≠ w.heap.size + 1 by omega))
        rw [← HX.out] at HB2 HZ2
        have hc2 : wq.drew.cell? ⟨w.heap.size + 1, t, none⟩ = some (.int .u32 (wv 0)) := hc5
        have hf2 : wq.drew.frozen? ⟨w.heap.size + 1, t, none⟩ = false := hf5
        clear hl4 hc5 hf5 c3 c4
        obtain ⟨w5, hw5'⟩ : ∃ w5, wq.drew = w5 := ⟨_, rfl⟩
        rw [hw5'] at HR2 HB2 HZ2 hc2 hf2 ⊢
        clear hw5' HR' HB' HZ'
        go_wp2
        go_roundw
        case rel => exact ⟨t + 1, by omega, by go_num, HR2.out, HZ2.out, HB2.out⟩
        case measure => simp [intOf]; omega
    · obtain rfl : t = 64 := by omega
      rw [show ((64 : Nat) : Int) = (64 : Int) from rfl]
      go_wp2_with (first | (with_reducible refine wpList_haltLoad 140 _ rfl ?_))
      refine Halt.mk ?_
      refine wpList_load32 rfl _ _ rfl (w.heap.size + 1) rfl (words1 s 64) HR.out _ Tryd.underlying140 rfl (by rw [words1_length]; exact info64) ?_
      go_wp2_with (first | (with_reducible refine wpList_haltStore 140 _ _ rfl ?_))
      refine Halt.mk ?_
      refine wpList_store32 rfl _ _ _ rfl w.heap.size (words1 s 64) (List.replicate 64 0) rfl rfl HZ.out (by rw [words1_length]; rfl) (by rw [words1_length]; exact info64) ?_
      intro w' hR hg
      go_wp2_with fail
      refine bodyPost_ret (v := .agg (vals32 (words1 s 64)).toArray) (results_cell32 rfl _ _ w.heap.size (words1 s 64) _ (by rfl) hR Tryd.underlying140 rfl (by rw [words1_length]; exact info64)) rfl ⟨rfl, ?_⟩
      exact HB.out.grown hg HB.out.size (fun r e => by cases e; exact Nat.le_refl _)
end Go.Proofs.YtfbopnebfdkhdaaDoor
