/- What the walks take: JmpA. -/
import Derived.Test.YtlelgbmbmajfmaaGreatDoorS26
import Derived.Test.YtlelgbmbmajfmaaGreatDoorS30
import Derived.Maps.OwnIn
namespace Go.Proofs.YtlelgbmbmajfmaaGreatDoor
open Go.RowKit Go.Shelf Go.Lib
attribute [local go_sem] Oper.semAt_some
/-- the operations from a place on: places and bytes -/
def opsE (c : List UInt8) : Nat → Nat → List (Nat × Nat)
  | 0, _ => []
  | f + 1, pc => if pc < c.length then (pc, (opE c pc).toNat) :: opsE c f (nextE c pc) else []
def opsAll (c : List UInt8) : List (Nat × Nat) := opsE c (c.length + 1) 0
def jmpsO (l : List (Nat × Nat)) : List Nat := (l.filter fun x => x.2 == 91).map (·.1)
def jmpsC (c : List UInt8) : List Nat := jmpsO (opsAll c)
theorem opsE_end {c : List UInt8} {f pc : Nat} (h : c.length ≤ pc) : opsE c f pc = [] := by
  cases f with
  | zero => rfl
  | succ f => show (if _ then _ else _) = _; rw [if_neg (by omega)]
theorem opsE_len (c : List UInt8) : ∀ f pc, (opsE c f pc).length ≤ c.length - pc
  | 0, _ => Nat.zero_le _
  | f + 1, pc => by
    show (if _ then _ else _ : List (Nat × Nat)).length ≤ _
    have h1 := nextE_lt c pc
    split
    · have h2 := opsE_len c f (nextE c pc)
      rw [List.length_cons]
      omega
    · exact Nat.zero_le _
theorem opsE_rise (c : List UInt8) : ∀ f pc, (opsE c f pc).Pairwise (fun a b => a.1 < b.1) ∧ ∀ x ∈ opsE c f pc, pc ≤ x.1 ∧ x.1 < c.length
  | 0, _ => ⟨List.Pairwise.nil, fun _ h => by cases h⟩
  | f + 1, pc => by
    have h1 := nextE_lt c pc
    have h2 := opsE_rise c f (nextE c pc)
    unfold opsE
    split
    · refine ⟨List.pairwise_cons.2 ⟨fun b hb => by have := (h2.2 b hb).1; show pc < b.1; omega, h2.1⟩, fun x hx => ?_⟩
      rcases List.mem_cons.1 hx with rfl | hx
      · exact ⟨Nat.le_refl _, by assumption⟩
      · have := h2.2 x hx; omega
    · exact ⟨List.Pairwise.nil, fun _ h => by cases h⟩
theorem jmpsC_rise (c : List UInt8) : (jmpsC c).Pairwise (· < ·) := by
  unfold jmpsC jmpsO
  rw [List.pairwise_map]
  exact (opsE_rise c _ _).1.sublist List.filter_sublist
theorem jmpsO_step (pre : List (Nat × Nat)) (x : Nat × Nat) : jmpsO (pre ++ [x]) = jmpsO pre ++ if x.2 == 91 then [x.1] else [] := by
  unfold jmpsO
  rw [List.filter_append, List.map_append]
  congr 1
  cases h : x.2 == 91 <;> simp [List.filter, h]
def OwnJ (base : Nat) (w : World) (v : Value) (js : List Nat) : Prop := w.ownsRow base 3 1 v js.length (js.map fun n : Nat => .int .i64 n)
theorem OwnJ.lt {base : Nat} {w : World} {v : Value} {l : List Nat} (h : OwnJ base w v l) : ∀ k, v.ownBlock = some k → base ≤ k ∧ k < w.heap.size := World.ownsRow.lt h
theorem OwnJ.of_block {base : Nat} {w w' : World} {v : Value} {l : List Nat} (h : OwnJ base w v l) (hb : ∀ k, v.ownBlock = some k → w'.heap[k]? = w.heap[k]?) : OwnJ base w' v l := by
  obtain ⟨h1, h2⟩ := h
  refine ⟨h1, ?_⟩
  rcases h2 with h2 | ⟨g, cap, cur, hv, hg, hh, r⟩
  · exact .inl h2
  · exact .inr ⟨g, cap, cur, hv, hg, by rw [hb g (by rw [hv]; rfl)]; exact hh, r⟩
theorem OwnJ.form {base : Nat} {w : World} {v : Value} {l : List Nat} (h : OwnJ base w v l) : ∃ p c, v = .slice p l.length c := by
  obtain ⟨_, ⟨rfl, h0⟩ | ⟨g, cap, cur, rfl, _⟩⟩ := h
  · exact ⟨none, 0, by rw [h0]⟩
  · exact ⟨_, _, rfl⟩
theorem OwnJ.after {base : Nat} {w w' : World} {v : Value} {l : List Nat} (h : OwnJ base w v l) (hb : Below w.heap.size w w') : OwnJ base w' v l := h.of_block fun k e => hb.block k (h.lt k e).2
theorem OwnJ.grownE {base : Nat} {W W' : World} {v : Value} {l : List Nat} {row : Option Nat} (h : OwnJ base W v l) (hg : W.grownBy W' row) (hr : ∀ r, row = some r → ∃ o : Obj, W.heap[r]? = some o ∧ o.isCells = false) : OwnJ base W' v l := by
  obtain ⟨h1, h2⟩ := h
  refine ⟨h1, ?_⟩
  rcases h2 with h2 | ⟨g, cap, cur, hv, hg1, hh, r⟩
  · exact .inl h2
  · refine .inr ⟨g, cap, cur, hv, hg1, ?_, r⟩
    rw [hg.block g (Array.getElem?_eq_some_iff.1 hh).1 (fun e => by
      obtain ⟨o, ho, hc⟩ := hr g e.symm
      rw [hh] at ho
      cases ho; cases hc)]
    exact hh
theorem OwnJ.ints {base : Nat} {w : World} {v : Value} {l : List Nat} (h : OwnJ base w v l) : IntsAt w v l w.heap.size := by
  obtain ⟨h1, ⟨rfl, h2⟩ | ⟨g, cap, cur, rfl, hg, hh, h4, h5, h6, h7⟩⟩ := h
  · exact .inl ⟨List.length_eq_zero_iff.1 h2, none, 0, rfl⟩
  · refine .inr ⟨g, cap, rfl, (Array.getElem?_eq_some_iff.1 hh).1, h4, fun j hj => ?_⟩
    rw [World.cell?, hh]
    have e : (cur.toList.take (l.length * 1))[j]? = cur[j]? := by rw [List.getElem?_take, if_pos (by omega)]; simp
    rw [h7] at e
    have e2 : (l.map fun n : Nat => (.int .i64 n : Value))[j]? = some (.int .i64 (l.getD j 0 : Nat)) := by
      rw [List.getElem?_map, List.getD_eq_getElem?_getD, List.getElem?_eq_getElem hj]
      rfl
    rw [e2] at e
    simpa using e.symm
theorem infoIntJ : (Tryz.prog.info? 3).map (fun i => (i.zero, i.size, i.bytes)) = some (some (.int .i64 0), 1, 8) := by kernel_rfl
theorem wpListIn_appendI {F : Fence} {m : Nat} {ops : Array Oper} {rest : List Oper} {o : Oper} {a : Act} {w : World} {Q : Exit → Act → World → Prop} (hgd : o.guard = none) (s x : Operand)
    (ho : o.op = .call { callee := .builtin .append, args := #[s, x], argTypes := #[146, 146] })
    (base : Nat) (v : Value) (l : List Nat) (hs : a.eval s = v) (hown : OwnJ base w v l)
    (ad : Addr) (c : Nat) (k : Nat) (hx : a.eval x = .slice (some ad) 1 c) (hnews : w.cell? ad = some (.int .i64 k))
    (h63 : l.length + 1 ≤ 1099511627776) (hbase : base ≤ w.heap.size)
    (h : ∀ v' w', OwnJ base w' v' (l ++ [k]) → w.grownBy w' v.ownBlock → wpListIn F m Tryz.prog ops Q rest (a.put o.dst v') w') : wpListIn F m Tryz.prog ops Q (o :: rest) a w := by
  obtain ⟨i0, hi0, hz0, hz1, hz2⟩ := info_parts infoIntJ
  refine wpListIn_append_own_at (P := Tryz.prog) (w := w) hgd s x 146 ho base 3 i0 (.int .i64 0) 1 8 Tryz.underlying146 hi0 hz0 hz1 hz2 rfl (by decide) v l.length (l.map fun n : Nat => .int .i64 n) hs hown ad 1 c [.int .i64 k] hx (by rfl) (fun j u hj => by
      match j, hj with
      | 0, hj => cases hj; exact hnews)
    (fun u hu => by simp only [List.mem_cons, List.not_mem_nil, or_false] at hu; rcases hu with rfl; rfl) (by unfold maxLen; omega) (by omega) hbase ?_
  intro v' w' h1 h2 _ _
  refine h v' w' ?_ h2
  unfold OwnJ
  rw [List.length_append, List.map_append]
  exact h1
def encO (x : Nat × Nat) : Array Value := #[.int .i64 x.1, .int .u8 x.2]
def GoodO (c : List UInt8) (pre : List (Nat × Nat)) (x : Nat × Nat) (_ _ : World) : Prop := ∃ rest, opsAll c = pre ++ x :: rest
theorem operations_any (F : Fence) (n : Nat) (hf : F.fn 93) (hro : F.round = none) (c : List UInt8) (w : World) :
    CallsIn F n Tryz.prog 93 #[.string ⟨c.toArray⟩] w fun e w' => e = .returned (.func (.func 119) #[] #[.pointer (some ⟨w.heap.size, 0, none⟩)]) ∧ w' = w.alloc (.cells #[.string ⟨c.toArray⟩] 9) := by
  refine callsIn_of_wp Tryz.func93 rfl hf ?_ hro
  simp only [Tryz.ntmps93, List.size_toArray, List.length_cons, List.length_nil, Nat.reduceAdd, Nat.reduceSub, Array.replicate_succ, Array.replicate_zero, List.push_toArray, List.append_toArray, List.nil_append, List.cons_append]
  gi_wp2
  go_ret
  exact ⟨rfl, rfl⟩
set_option maxRecDepth 100000 in
set_option maxHeartbeats 6400000 in
theorem ops_body (n : Nat) (hn : 1 ≤ n) (l Bn : Nat) (c : List UInt8) (hc : c.length ≤ 1099511627776) (S : Nat → Prop) (hSB : S Bn) (J Jx : List (Nat × Nat) → World → Prop)
    (hY : ∀ pre x W0 W1, J pre W0 → Below W0.heap.size W0 W1 → GoodO c pre x W0 W1 → YieldAt Fence.wide (n - 1) Tryz.prog l (encO x) W1 fun e W' =>
      (e = .returned (.bool true) ∧ J (pre ++ [x]) W' ∧ KeepS S W1 W') ∨ (e = .returned (.bool false) ∧ Jx (pre ++ [x]) W'))
    (W : World) (hb : HasCells W Bn [.string ⟨c.toArray⟩] 9) (h0 : J [] W) :
    CallsIn Fence.wide n Tryz.prog 119 #[.func (.yield l) #[] #[], .pointer (some ⟨Bn, 0, none⟩)] W fun e W' => (∃ v, e = .returned v) ∧
      ((∃ xs, xs = opsAll c ∧ J xs W') ∨ (∃ pre, True ∧ Jx pre W')) := by
  have HB0 := Lib.hid hb
  clear hb
  refine callsIn_of_wp Tryz.func119 rfl trivial ?_ rfl
  simp only [Tryz.ntmps119, List.size_toArray, List.length_cons, List.length_nil, Nat.reduceAdd, Nat.reduceSub, Array.replicate_succ, Array.replicate_zero, List.push_toArray, List.append_toArray, List.nil_append, List.cons_append]
  gi_wp2
  gi_loopw [3] (fun iv wr => ∃ (pc f : Nat) (pre : List (Nat × Nat)), iv = .int .i64 pc ∧ J pre wr ∧ Hid (c.length < pc + f) ∧ Hid (opsAll c = pre ++ opsE c f pc) ∧ Hid (HasCells wr Bn [.string ⟨c.toArray⟩] 9)) (fun iv wr => c.length - (RowKit.intOf iv).toNat)
  case atStart => exact ⟨0, c.length + 1, [], rfl, h0, Lib.hid (by omega), Lib.hid rfl, HB0⟩
  case round =>
    obtain ⟨pc, f, pre, rfl, hJ0, HF, HPR, HBX⟩ := hrel
    have c2 := HBX.out.cell (j := 0) rfl
    obtain ⟨N, hN⟩ : ∃ N, c.length = N := ⟨_, rfl⟩
    have hsz : (⟨c.toArray⟩ : ByteArray).size = N := by rw [sizeE, hN]
    by_cases hlt : pc < N
    · have g1 : (pc : Int) < N := by omega
      obtain ⟨f, rfl⟩ : ∃ g, f = g + 1 := ⟨f - 1, by have := HF.out; omega⟩
      have hstep : opsE c (f + 1) pc = (pc, (opE c pc).toNat) :: opsE c f (nextE c pc) := by show (if _ then _ else _) = _; rw [if_pos (by omega)]
      have hnx := nextE_lt c pc
      obtain ⟨nx, hnx2⟩ : ∃ nx, nextE c pc = nx := ⟨_, rfl⟩
      obtain ⟨op, hop⟩ : ∃ op, (opE c pc).toNat = op := ⟨_, rfl⟩
      obtain ⟨dt, hdt⟩ : ∃ dt, dataE c pc = dt := ⟨_, rfl⟩
      have HAT := Lib.hid (show ∀ W', Calls Tryz.prog 94 #[.string ⟨c.toArray⟩, .int .i64 pc] W' fun e w' => e = .returned (.tuple #[.int .u8 op, .string ⟨dt.toArray⟩, .int .i64 nx]) ∧ Below W'.heap.size W' w' from fun W' => by
        have h := codeAt_any c pc W' hc (by omega)
        unfold atV at h
        rw [hop, hdt, hnx2] at h
        exact h)
      rw [hnx2] at hnx hstep
      rw [hop] at hstep
      have HST := Lib.hid hstep
      have hnN : nx ≤ N + 33 := by omega
      clear hstep hnx2 hop hdt
      gi_wp2_with (refine ⟨trivial, ?_⟩; gi_at_call 94; refine (callsIn_wide.2 (HAT.out _)).mono ?_; rintro e w1 ⟨rfl, hb1⟩; clear c2; obtain ⟨f1, t1, a1, b1, hy1, hR1⟩ := hY pre (pc, op) wr w1 hJ0 hb1 ⟨opsE c f nx, by rw [← HST.out]; exact HPR.out⟩; simp only [encO] at hy1; have HR1 := Lib.hid hR1; have HB1 := Lib.hid hb1; clear hR1 hb1)
      have HNX := Lib.hid (show opsAll c = (pre ++ [(pc, op)]) ++ opsE c f nx from HPR.out.trans (by rw [HST.out]; simp))
      refine HR1.out.mono ?_
      rintro e W1 (⟨rfl, hJ1, hk1⟩ | ⟨rfl, hx1⟩)
      · gi_wp2
        go_roundw
        case rel => exact ⟨nx, f, pre ++ [(pc, op)], rfl, hJ1, Lib.hid (by have := HF.out; omega), HNX, Lib.hid ((HBX.out.after HB1.out).kept (hk1.2 Bn hSB))⟩
        case measure => simp [RowKit.intOf]; omega
      · gi_wp2
        refine bodyPost_ret (results_none rfl _ _ _) rfl ?_
        exact ⟨⟨_, rfl⟩, .inr ⟨_, trivial, hx1⟩⟩
    · have g1 : ¬ ((pc : Int) < N) := by omega
      have he : opsE c f pc = [] := opsE_end (by omega)
      have HE := Lib.hid he
      clear he
      gi_wp2
      go_end0
      exact ⟨⟨_, rfl⟩, .inl (by have h := HPR.out; rw [HE.out, List.append_nil] at h; rw [h]; exact hJ0)⟩
set_option maxRecDepth 100000 in
set_option maxHeartbeats 6400000 in
theorem jumps_any (c : List UInt8) (w : World) (hc : c.length ≤ 1099511627776) : Calls Tryz.prog 79 #[.string ⟨c.toArray⟩] w fun e w' => (∃ v, e = .returned v ∧ IntsAt w' v (jmpsC c) w'.heap.size) ∧ Below w.heap.size w w' := by
  refine (callsIn_wide (n := 9)).1 ?_
  refine callsIn_of_wp_marks Tryz.func79 rfl trivial ?_ rfl
  simp only [Tryz.ntmps79, List.size_toArray, List.length_cons, List.length_nil, Nat.reduceAdd, Nat.reduceSub, Array.replicate_succ, Array.replicate_zero, List.push_toArray, List.append_toArray, List.nil_append, List.cons_append]
  gi_wp2
  refine wpIn_scope_straight ?_
  gi_wp2
  refine wpIn_label ?_
  gi_wp2_with (refine ⟨trivial, ?_⟩; gi_at_call 93; refine (operations_any Fence.wide _ trivial rfl _ _).mono ?_; rintro e w' ⟨rfl, rfl⟩)
  have hz1 := (HasCells.new w [.slice none 0 0] 146).alloc (.cells #[.string ⟨c.toArray⟩] 9)
  have hz2 := HasCells.new (w.alloc (.cells #[.slice none 0 0] 146)) [.string ⟨c.toArray⟩] 9
  obtain ⟨W0, hW0⟩ : ∃ W, (w.alloc (.cells #[.slice none 0 0] 146)).alloc (.cells #[.string ⟨c.toArray⟩] 9) = W := ⟨_, rfl⟩
  have hs0 : W0.heap.size = w.heap.size + 2 := by rw [← hW0]; simp only [World.size_alloc]
  have hb0 : Below w.heap.size w W0 := by rw [← hW0]; exact laid2 _ _ _
  rw [World.size_alloc] at hz2
  rw [show (w.alloc (.cells ([.slice none 0 0] : List Value).toArray 146)).alloc (.cells #[.string ⟨c.toArray⟩] 9) = W0 from hW0] at hz1
  rw [show (w.alloc (.cells #[.slice none 0 0] 146)).alloc (.cells ([.string ⟨c.toArray⟩] : List Value).toArray 9) = W0 from hW0] at hz2
  rw [hW0]
  have HZ2 := Lib.hid hz2
  clear hW0 hz2
  refine wpIn_rangeFunc_S rfl (by omega) (gf := 119) (lb := #[.pointer (some ⟨w.heap.size + 1, 0, none⟩)]) rfl trivial (enters_of Tryz.func119 (by kernel_rfl) rfl)
    (encs := encO) (Step := fun A B => Below A.heap.size A B) (Good := GoodO c) (Kp := KeepS (fun g => g = w.heap.size + 1)) (S := fun xs W' => xs = opsAll c) (Sp := fun _ _ => True) (w0 := W0)
    (fun l J Jx W1 hW hJs _ hY h0 => ops_body _ (by omega) l (w.heap.size + 1) c hc (fun g => g = w.heap.size + 1) rfl J Jx hY W1 (HZ2.out.after hW) h0)
    KeepS.trans (fun W1 l o o' hl _ _ _ => ⟨by simp, fun g hg => World.putObj_heap_other (by omega)⟩) (Below.refl _ _) (fun _ => rfl)
    (fun A B k o hst hk hA _ => (hst.block k (Array.getElem?_eq_some_iff.1 hA).1).trans hA)
    (fun pre W1 => ((∃ v, HasCells W1 w.heap.size [v] 146 ∧ OwnJ (w.heap.size + 2) W1 v (jmpsO pre)) ∧ Below w.heap.size w W1 ∧ w.heap.size + 2 ≤ W1.heap.size ∧ pre.length ≤ c.length)) (fun _ _ _ => False) (fun pre x a' W1 => GoodO c pre x W1 W1 ∧ a' = { tmps := #[.string ⟨c.toArray⟩, undef, .slice none 0 0, .pointer (some ⟨w.heap.size, 0, none⟩), .int .i64 x.1, .int .u8 x.2, .string ⟨c.toArray⟩, .func (.func 119) #[] #[.pointer (some ⟨w.heap.size + 1, 0, none⟩)], .int .i64 x.1, .int .u8 x.2, undef, undef, undef, undef, undef, undef, undef], defers := [] } ∧ ((∃ v, HasCells W1 w.heap.size [v] 146 ∧ OwnJ (w.heap.size + 2) W1 v (jmpsO pre)) ∧ Below w.heap.size w W1 ∧ w.heap.size + 2 ≤ W1.heap.size ∧ pre.length ≤ c.length))
    ?sown ?sown2 ?own ?ownx1 ?ownx ?ist (fun _ _ _ _ h => h.elim) ⟨⟨_, hz1, World.ownsRow_nil _ _ _ _⟩, hb0, by omega, Nat.zero_le _⟩ ?assign ?body ?done (fun _ _ _ _ _ _ h => h.elim)
  case sown => intro xs W1 W2 row h _ _; exact h
  case sown2 => intro _ _ _ _ _ _ _; trivial
  case own =>
    rintro pre W1 W2 row ⟨⟨v, h1, h2⟩, h3, h4, h5⟩ hg hr
    have hr2 := fun r e => (hr r e).2
    exact ⟨⟨v, h1.grownE hg hr2, h2.grownE hg hr2⟩, h3.trans ⟨hg.os, hg.tape, hg.output, hg.size, fun k h => hg.block k (by omega) (fun e => by have := (hr k e.symm).1; omega)⟩, Nat.le_trans h4 hg.size, h5⟩
  case ownx1 => intro c s W1 W2 row h _ _; exact h
  case ownx =>
    rintro pre x a' _ W1 W2 row ⟨e1, e2, ⟨v, h1, h2⟩, h3, h4, h5⟩ hg hr
    have hr2 := fun r e => (hr r e).2
    exact ⟨e1, e2, ⟨v, h1.grownE hg hr2, h2.grownE hg hr2⟩, h3.trans ⟨hg.os, hg.tape, hg.output, hg.size, fun k h => hg.block k (by omega) (fun e => by have := (hr k e.symm).1; omega)⟩, Nat.le_trans h4 hg.size, h5⟩
  case ist =>
    rintro pre A B ⟨⟨v, h1, h2⟩, h3, h4, h5⟩ hst
    exact ⟨⟨v, h1.after hst, h2.after hst⟩, h3.trans (hst.mono (by omega)), Nat.le_trans h4 hst.size, h5⟩
  case assign =>
    rintro l pre x Wa Wb K ⟨⟨v, h1, h2⟩, h3, h4, h5⟩ hst hx hK
    have HI := Lib.hid (show (∃ v, HasCells Wb w.heap.size [v] 146 ∧ OwnJ (w.heap.size + 2) Wb v (jmpsO pre)) ∧ Below w.heap.size w Wb ∧ w.heap.size + 2 ≤ Wb.heap.size ∧ pre.length ≤ c.length from ⟨⟨v, h1.after hst, h2.after hst⟩, h3.trans (hst.mono (by omega)), Nat.le_trans h4 hst.size, h5⟩)
    have HKK := Lib.hid hK
    have HXX := Lib.hid hx
    clear h1 h2 h3 hst hK hx hz1 hb0
    simp only [encO]
    gi_wp2
    exact HKK.out _ _ ⟨Nat.le_refl _, fun _ _ _ h _ => h⟩ ⟨Nat.le_refl _, fun _ _ => rfl⟩ ⟨HXX.out, rfl, HI.out⟩
  case body =>
    rintro l pre x a' W1 hl - ⟨⟨rest, hgd⟩, rfl, ⟨v, h1, h2⟩, h3, h4, h5⟩
    obtain ⟨pc, op⟩ := x
    have hll : (opsAll c).length ≤ c.length := opsE_len c _ _
    rw [hgd, List.length_append, List.length_cons] at hll
    dsimp only
    have H1 := Lib.hid h1
    have H2 := Lib.hid h2
    have H3 := Lib.hid h3
    have hjl : (jmpsO pre).length ≤ pre.length := by unfold jmpsO; rw [List.length_map]; exact List.length_filter_le _ _
    clear hgd hz1 hb0 h2 h3
    by_cases ho : op = 91
    · subst ho
      have c0 := h1.cell (j := 0) rfl
      have i0 := h1.frozen 0
      clear h1
      have hg1 : W1.heap.size < (W1.alloc (.cells #[.int .i64 pc] 3)).heap.size := by simp
      gi_wp2_with (gi_at_builtin; refine wpListIn_appendI rfl _ _ rfl (w.heap.size + 2) v (jmpsO pre) rfl (H2.out.after (laid1 _ _)) ⟨W1.heap.size, 0, none⟩ 1 pc rfl ((HasCells.new W1 [.int .i64 pc] 3).cell (j := 0) rfl) (by omega) (by omega) ?_; intro v' w5 ho5 hg5; obtain ⟨p5, q5, rfl⟩ := ho5.form; have hb5 : HasCells w5 w.heap.size [v] 146 := (H1.out.after (laid1 _ _)).kept (hg5.block _ (by omega) (fun e => by have := (H2.out.lt _ e.symm).1; omega)); have c5 := hb5.cell (j := 0) rfl; have i5 := hb5.frozen 0; have HB5 := Lib.hid hb5; have HO5 := Lib.hid ho5; have HG5 := Lib.hid hg5; clear c0 i0 hb5 ho5 hg5)
      obtain ⟨w6, hw6⟩ : ∃ W, w5.setCell ⟨w.heap.size, 0, none⟩ (.slice p5 ((jmpsO pre).length + 1) q5) = W := ⟨_, rfl⟩
      have ho6 := HO5.out
      rw [List.length_append, List.length_singleton] at ho6
      have hot : ∀ q, q ≠ w.heap.size → w6.heap[q]? = w5.heap[q]? := fun q hq => by rw [← hw6]; exact Below.heap_setCell w5 ⟨w.heap.size, 0, none⟩ _ q hq
      have hsz : w6.heap.size = w5.heap.size := by rw [← hw6]; exact World.size_setCell _ _ _
      have hgs := HG5.out.size
      have hown : ∀ k, v.ownBlock = some k → w.heap.size + 2 ≤ k ∧ k < W1.heap.size := fun k e => H2.out.lt k e
      rw [hw6]
      refine ⟨⟨by omega, fun q o hq ho hc => ?_⟩, ⟨by omega, fun q hq => ?_⟩, ⟨_, by rw [← hw6]; exact HB5.out.set 0 _, ?_⟩, ⟨?_, ?_, ?_, by omega, fun q hq => ?_⟩, by omega, ?_⟩
      · have hql := (Array.getElem?_eq_some_iff.1 ho).1
        refine (hot q (by omega)).trans ((HG5.out.block q (by omega) (fun e => ?_)).trans (((laid1 W1 _).block q hql).trans ho))
        obtain ⟨_, ⟨h6, _⟩ | ⟨g, cap, cur, h6, _, h7, _⟩⟩ := H2.out
        · rw [h6] at e; cases e
        · rw [h6] at e
          have : q = g := by simpa [Value.ownBlock] using e
          subst this
          rw [h7] at ho
          cases ho; cases hc
      · subst hq
        exact (hot _ (by omega)).trans ((HG5.out.block _ (by omega) (fun e => by have := hown _ e.symm; omega)).trans ((laid1 W1 _).block _ (by omega)))
      · rw [jmpsO_step, if_pos (by rfl)]
        exact ho6.of_block fun k e => hot k (by have := ho6.lt k e; omega)
      · rw [← hw6]; exact (HG5.out.os).trans H3.out.os
      · rw [← hw6]; exact (HG5.out.tape).trans H3.out.tape
      · rw [← hw6]; exact (HG5.out.output).trans H3.out.output
      · have := H3.out.size
        exact (hot q (by omega)).trans ((HG5.out.block q (by omega) (fun e => by have := hown _ e.symm; omega)).trans (((laid1 W1 _).block q (by omega)).trans (H3.out.block q hq)))
      · rw [List.length_append]
        show pre.length + 1 ≤ c.length
        omega
    · have g1 : ¬ ((op : Int) = 91) := by omega
      have HE := Lib.hid (show jmpsO (pre ++ [(pc, op)]) = jmpsO pre from by rw [jmpsO_step, if_neg (by simpa using ho), List.append_nil])
      clear h1
      gi_wp2
      refine ⟨⟨Nat.le_refl _, fun _ _ _ h _ => h⟩, ⟨Nat.le_refl _, fun _ _ => rfl⟩, ⟨v, H1.out, HE.out ▸ H2.out⟩, H3.out, h4, ?_⟩
      rw [List.length_append]
      show pre.length + 1 ≤ c.length
      omega
  case done =>
    rintro D xs W1 hD rfl ⟨⟨v, h1, h2⟩, h3, h4, h5⟩ hK
    have c0 := h1.cell (j := 0) rfl
    have H2 := Lib.hid h2
    have H3 := Lib.hid h3
    have HKD := Lib.hid hK
    clear h1 h2 h3 hK hz1 hb0
    gi_wp2
    have hgr : W1.grownBy (W1.putObj D (.deferred none)) (some D) := grownBy_putObj' W1 D _
    refine ⟨by simp, .inl ⟨_, _, rfl, run_takeDeferred HKD.out, ?_⟩⟩
    refine ⟨_, results_tmp rfl _ _ _, ?_⟩
    exact ⟨⟨v, rfl, (H2.out.grownE hgr (fun r e => by cases e; exact ⟨_, HKD.out, rfl⟩)).ints⟩, H3.out.trans ⟨hgr.os, hgr.tape, hgr.output, hgr.size, fun k h => World.putObj_heap_other (by omega)⟩⟩
end Go.Proofs.YtlelgbmbmajfmaaGreatDoor
