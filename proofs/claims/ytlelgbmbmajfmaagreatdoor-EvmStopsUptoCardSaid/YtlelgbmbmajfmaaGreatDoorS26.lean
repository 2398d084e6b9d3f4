/- What the walks take: EvmL, EvmM, EvmN, EvmO, EvmG, EvmJ, EvmS, EvmW. -/
import Derived.Test.YtlelgbmbmajfmaaGreatDoorS15
import Derived.Test.YtlelgbmbmajfmaaGreatDoorS17
import Derived.Test.YtlelgbmbmajfmaaGreatDoorS25
import Derived.Test.YtlelgbmbmajfmaaGreatDoorShelfR
namespace Go.Proofs.YtlelgbmbmajfmaaGreatDoor
open Go.RowKit Go.Shelf Go.Lib
attribute [local go_sem] Oper.semAt_some
theorem HasCells.grownE {W W' : World} {q : Nat} {cs : List Value} {t : TypeId} {row : Option Nat} (h : HasCells W q cs t) (hg : W.grownBy W' row) (hr : ∀ r, row = some r → ∃ o : Obj, W.heap[r]? = some o ∧ o.isCells = false) : HasCells W' q cs t :=
  h.kept (hg.block q h.lt (fun e => by
    obtain ⟨o, ho, hc⟩ := hr q e.symm
    rw [show W.heap[q]? = _ from h] at ho
    cases ho; cases hc))
theorem OwnW.grownE {base : Nat} {W W' : World} {v : Value} {l : List Nat} {row : Option Nat} (h : OwnW base W v l) (hg : W.grownBy W' row) (hr : ∀ r, row = some r → ∃ o : Obj, W.heap[r]? = some o ∧ o.isCells = false) : OwnW base W' v l := by
  obtain ⟨h1, h2⟩ := h
  refine ⟨h1, ?_⟩
  rcases h2 with h2 | ⟨g, cap, cur, hv, hg1, hh, r⟩
  · exact .inl h2
  · refine .inr ⟨g, cap, cur, hv, hg1, ?_, r⟩
    rw [hg.block g (Array.getElem?_eq_some_iff.1 hh).1 (fun e => by
      obtain ⟨o, ho, hc⟩ := hr g e.symm
      rw [hh] at ho
      cases ho; cases hc)]
    exact hh
theorem Fra.grownE {p : Nat} {W W' : World} {f : FrE} {row : Option Nat} (h : Fra p W f) (hg : W.grownBy W' row) (hr : ∀ r, row = some r → ∃ o : Obj, W.heap[r]? = some o ∧ o.isCells = false) : Fra p W' f := ⟨h.1.grownE hg hr, h.2.grownE hg hr⟩
theorem store_gateI {F : Fence} {n : Nat} {P : Program} {ops : Array Oper} {Q : Exit → Act → World → Prop} {rest : List Oper} {a : Act} {w : World} {d : Option Tmp} {x y : Operand} {ty : TypeId} {pos : String} {af : Array Edge} {g : Option (Nat × Bool)} (T : TypeId)
    (h : wpListIn F n P ops Q (Oper.mk d (Op.store T x y) ty pos af g :: rest) a w) : wpListIn F n P ops Q (Oper.mk d (Op.store T x y) ty pos af g :: rest) a w := h
theorem load_gateI {F : Fence} {n : Nat} {P : Program} {ops : Array Oper} {Q : Exit → Act → World → Prop} {rest : List Oper} {a : Act} {w : World} {d : Option Tmp} {x : Operand} {ty : TypeId} {pos : String} {af : Array Edge} {g : Option (Nat × Bool)} (T : TypeId)
    (h : wpListIn F n P ops Q (Oper.mk d (Op.load T x) ty pos af g :: rest) a w) : wpListIn F n P ops Q (Oper.mk d (Op.load T x) ty pos af g :: rest) a w := h
theorem wpListIn_store_midI {F : Fence} {n : Nat} {P : Program} {ops : Array Oper} {rest : List Oper} {o : Oper} {a : Act} {w : World} {Q : Exit → Act → World → Prop} (hgd : o.guard = none) (ty : TypeId) (x y : Operand) (ho : o.op = .store ty x y)
    (b off : Nat) (cells : Array Value) (hx : a.eval x = .pointer (some ⟨b, off, none⟩)) (hy : a.eval y = .agg cells) (ht : w.there b off cells.size) (hi : (P.info? ty).map (·.size) = some cells.size) (h1 : cells.all (·.oneCell') = true)
    (h : wpListIn F n P ops Q rest (a.put o.dst undef) (w.setCells b off cells.toList)) : wpListIn F n P ops Q (o :: rest) a w := by
  refine wpListIn_plain hgd fun K hK' => ?_
  unfold Oper.wpIn
  refine ⟨by simp [Oper.about, ho], ?_⟩
  rw [Oper.semAt_plain F _ _ (by rw [ho]; intro c hc'; cases hc')]
  simp only [execOp, ho, hx, hy, run_storeAt_mid w b off ty cells ht hi h1, Sem.run_bind, Sem.run_pure, Result.andThen_ok]
  exact hK' _ _ h
theorem wpListIn_load_midI {F : Fence} {n : Nat} {P : Program} {ops : Array Oper} {rest : List Oper} {o : Oper} {a : Act} {w : World} {Q : Exit → Act → World → Prop} (hgd : o.guard = none) (ty : TypeId) (x : Operand) (ho : o.op = .load ty x)
    (b off : Nat) (hx : a.eval x = .pointer (some ⟨b, off, none⟩)) (cs : List Value) (d : TypeDesc) (hc : w.rangeAt b off cs) (hu : P.underlying ty = some d) (hd : d.isRow = true) (hi : (P.info? ty).map (·.size) = some cs.length)
    (h : wpListIn F n P ops Q rest (a.put o.dst (.agg cs.toArray)) w) : wpListIn F n P ops Q (o :: rest) a w := by
  refine wpListIn_plain hgd fun K hK' => ?_
  unfold Oper.wpIn
  refine ⟨by simp [Oper.about, ho], ?_⟩
  rw [Oper.semAt_plain F _ _ (by rw [ho]; intro c hc'; cases hc')]
  simp only [execOp, ho, hx, Instr.loadAt, Instr.sureAddr, Sem.run_bind, Sem.run_pure, Result.andThen_ok, run_loadVar_mid w b off ty cs d hc hu hd hi]
  exact hK' _ _ h
theorem spl_all : ∀ (vs pre cs : List Value), cs.length = vs.length → spl (pre ++ cs) pre.length vs = pre ++ vs
  | [], pre, cs, h => by rw [List.length_eq_zero_iff.1 h]; rfl
  | v :: vs, pre, cs, h => by
    cases cs with
    | nil => cases h
    | cons c cs =>
      show spl ((pre ++ c :: cs).set pre.length v) (pre.length + 1) vs = _
      rw [List.set_append_right _ _ (Nat.le_refl _), Nat.sub_self, List.set_cons_zero]
      have h2 := spl_all vs (pre ++ [v]) cs (by simpa using h)
      rw [List.length_append, List.append_assoc, List.append_assoc] at h2
      exact h2
theorem HasCells.whole {W : World} {q : Nat} {cs vs : List Value} {t : TypeId} (h : HasCells W q cs t) (hl : cs.length = vs.length) : HasCells (W.setCells q 0 vs) q vs t := by
  have h1 := h.sets vs 0
  rw [show spl cs 0 vs = vs from spl_all vs [] cs hl] at h1
  exact h1
theorem Upf.grown {p : Nat} {w w1 w2 : World} {f f1 : FrE} {row : Option Nat} (h : Upf p w f w1 f1) (hp : p ≤ w.heap.size) (hg : w1.grownBy w2 row) (hr : ∀ r, row = some r → w.heap.size ≤ r) : Upf p w f w2 f1 :=
  h.next hp ⟨hg.os, hg.tape, hg.output, hg.size, fun k hk => hg.block k (Nat.lt_of_lt_of_le hk h.below.size) (fun e => by have := hr k e.symm; omega)⟩
theorem Upf.step {p : Nat} {w A B : World} {f f1 : FrE} (h : Upf p w f A f1) (hp : p ≤ w.heap.size) (hs : StepT p A B) : Upf p w f B f1 :=
  ⟨h.below.trans ⟨hs.os, hs.tape, hs.output, hs.size, fun k hk => hs.block k (Nat.lt_of_lt_of_le hk (Nat.le_trans hp h.below.size)) (fun e => by cases e; omega)⟩,
   fun k hk hne hf => (hs.block k (Nat.lt_of_lt_of_le hk h.below.size) (fun e => by cases e; exact hne rfl)).trans (h.block k hk hne hf), h.own⟩
theorem infoSeven : (Tryz.prog.info? 199).map (·.size) = some 28 := by kernel_rfl
/-- seven words, of which so many were taken off -/
def sevW (f : FrE) (k : Nat) : List Nat := (List.range 7).map fun i => if i < k then topT f i else 0
def sevC (f : FrE) (k : Nat) : List Value := wordCells (sevW f k)
theorem sevC_length (f : FrE) (k : Nat) : (sevC f k).length = 28 := by unfold sevC; rw [wordCells_length]; unfold sevW; simp
theorem sevC_zero (f : FrE) : sevC f 0 = [.int .u64 0, .int .u64 0, .int .u64 0, .int .u64 0, .int .u64 0, .int .u64 0, .int .u64 0, .int .u64 0, .int .u64 0, .int .u64 0, .int .u64 0, .int .u64 0, .int .u64 0, .int .u64 0, .int .u64 0, .int .u64 0, .int .u64 0, .int .u64 0, .int .u64 0, .int .u64 0, .int .u64 0, .int .u64 0, .int .u64 0, .int .u64 0, .int .u64 0, .int .u64 0, .int .u64 0, .int .u64 0] := by
  have h : sevW f 0 = [0, 0, 0, 0, 0, 0, 0] := rfl
  unfold sevC
  rw [h]
  simp only [wordCells, List.flatMap_cons, List.flatMap_nil, List.append_nil, limb_nought]
  rfl
theorem sevC_one (f : FrE) (k : Nat) : (sevC f k).toArray.all (·.oneCell') = true := all_oneCell_toArray (fun v hv => by
  unfold sevC wordCells at hv
  obtain ⟨x, _, hx⟩ := List.mem_flatMap.1 hv
  simp only [List.mem_cons, List.not_mem_nil, or_false] at hx
  rcases hx with rfl | rfl | rfl | rfl <;> rfl)
theorem spl_sev (f : FrE) (k : Nat) (hk : k < 7) : spl (sevC f k) (k * 4) [.int .u64 (limb (topT f k) 0), .int .u64 (limb (topT f k) 1), .int .u64 (limb (topT f k) 2), .int .u64 (limb (topT f k) 3)] = sevC f (k + 1) := by
  match k, hk with
  | 0, _ => rfl
  | 1, _ => rfl
  | 2, _ => rfl
  | 3, _ => rfl
  | 4, _ => rfl
  | 5, _ => rfl
  | 6, _ => rfl
set_option maxRecDepth 100000 in
set_option maxHeartbeats 6400000 in
theorem take_any (p : Nat) (f : FrE) (m : Nat) (w : World) (h : Fra p w f) (hm : m ≤ 7) (hml : m ≤ f.stkL.length) (h63 : f.stkL.length ≤ 1099511627776) : Calls Tryz.prog 124 #[.pointer (some ⟨p, 0, none⟩), .int .i64 m] w fun e w' =>
    e = .returned (.agg (sevC f m).toArray) ∧ Upf p w f w' (popF f m) ∧ Fra p w' (popF f m) := by
  have hlt := h.lt
  have H := Lib.hid h
  have hz0 := (HasCells.new w [.int .u64 0, .int .u64 0, .int .u64 0, .int .u64 0, .int .u64 0, .int .u64 0, .int .u64 0, .int .u64 0, .int .u64 0, .int .u64 0, .int .u64 0, .int .u64 0, .int .u64 0, .int .u64 0, .int .u64 0, .int .u64 0, .int .u64 0, .int .u64 0, .int .u64 0, .int .u64 0, .int .u64 0, .int .u64 0, .int .u64 0, .int .u64 0, .int .u64 0, .int .u64 0, .int .u64 0, .int .u64 0] 199).alloc (.cells #[.int .u64 0, .int .u64 0, .int .u64 0, .int .u64 0, .int .u64 0, .int .u64 0, .int .u64 0, .int .u64 0, .int .u64 0, .int .u64 0, .int .u64 0, .int .u64 0, .int .u64 0, .int .u64 0, .int .u64 0, .int .u64 0, .int .u64 0, .int .u64 0, .int .u64 0, .int .u64 0, .int .u64 0, .int .u64 0, .int .u64 0, .int .u64 0, .int .u64 0, .int .u64 0, .int .u64 0, .int .u64 0] 199)
  have hz1 : HasCells ((w.alloc (.cells #[.int .u64 0, .int .u64 0, .int .u64 0, .int .u64 0, .int .u64 0, .int .u64 0, .int .u64 0, .int .u64 0, .int .u64 0, .int .u64 0, .int .u64 0, .int .u64 0, .int .u64 0, .int .u64 0, .int .u64 0, .int .u64 0, .int .u64 0, .int .u64 0, .int .u64 0, .int .u64 0, .int .u64 0, .int .u64 0, .int .u64 0, .int .u64 0, .int .u64 0, .int .u64 0, .int .u64 0, .int .u64 0] 199)).alloc (.cells #[.int .u64 0, .int .u64 0, .int .u64 0, .int .u64 0, .int .u64 0, .int .u64 0, .int .u64 0, .int .u64 0, .int .u64 0, .int .u64 0, .int .u64 0, .int .u64 0, .int .u64 0, .int .u64 0, .int .u64 0, .int .u64 0, .int .u64 0, .int .u64 0, .int .u64 0, .int .u64 0, .int .u64 0, .int .u64 0, .int .u64 0, .int .u64 0, .int .u64 0, .int .u64 0, .int .u64 0, .int .u64 0] 199)) (w.heap.size + 1) [.int .u64 0, .int .u64 0, .int .u64 0, .int .u64 0, .int .u64 0, .int .u64 0, .int .u64 0, .int .u64 0, .int .u64 0, .int .u64 0, .int .u64 0, .int .u64 0, .int .u64 0, .int .u64 0, .int .u64 0, .int .u64 0, .int .u64 0, .int .u64 0, .int .u64 0, .int .u64 0, .int .u64 0, .int .u64 0, .int .u64 0, .int .u64 0, .int .u64 0, .int .u64 0, .int .u64 0, .int .u64 0] 199 := by
    have h := HasCells.new (w.alloc (.cells #[.int .u64 0, .int .u64 0, .int .u64 0, .int .u64 0, .int .u64 0, .int .u64 0, .int .u64 0, .int .u64 0, .int .u64 0, .int .u64 0, .int .u64 0, .int .u64 0, .int .u64 0, .int .u64 0, .int .u64 0, .int .u64 0, .int .u64 0, .int .u64 0, .int .u64 0, .int .u64 0, .int .u64 0, .int .u64 0, .int .u64 0, .int .u64 0, .int .u64 0, .int .u64 0, .int .u64 0, .int .u64 0] 199)) [.int .u64 0, .int .u64 0, .int .u64 0, .int .u64 0, .int .u64 0, .int .u64 0, .int .u64 0, .int .u64 0, .int .u64 0, .int .u64 0, .int .u64 0, .int .u64 0, .int .u64 0, .int .u64 0, .int .u64 0, .int .u64 0, .int .u64 0, .int .u64 0, .int .u64 0, .int .u64 0, .int .u64 0, .int .u64 0, .int .u64 0, .int .u64 0, .int .u64 0, .int .u64 0, .int .u64 0, .int .u64 0] 199
    rwa [World.size_alloc] at h
  obtain ⟨w0, hw0⟩ : ∃ W, (w.alloc (.cells #[.int .u64 0, .int .u64 0, .int .u64 0, .int .u64 0, .int .u64 0, .int .u64 0, .int .u64 0, .int .u64 0, .int .u64 0, .int .u64 0, .int .u64 0, .int .u64 0, .int .u64 0, .int .u64 0, .int .u64 0, .int .u64 0, .int .u64 0, .int .u64 0, .int .u64 0, .int .u64 0, .int .u64 0, .int .u64 0, .int .u64 0, .int .u64 0, .int .u64 0, .int .u64 0, .int .u64 0, .int .u64 0] 199)).alloc (.cells #[.int .u64 0, .int .u64 0, .int .u64 0, .int .u64 0, .int .u64 0, .int .u64 0, .int .u64 0, .int .u64 0, .int .u64 0, .int .u64 0, .int .u64 0, .int .u64 0, .int .u64 0, .int .u64 0, .int .u64 0, .int .u64 0, .int .u64 0, .int .u64 0, .int .u64 0, .int .u64 0, .int .u64 0, .int .u64 0, .int .u64 0, .int .u64 0, .int .u64 0, .int .u64 0, .int .u64 0, .int .u64 0] 199) = W := ⟨_, rfl⟩
  rw [show (w.alloc (.cells ([.int .u64 0, .int .u64 0, .int .u64 0, .int .u64 0, .int .u64 0, .int .u64 0, .int .u64 0, .int .u64 0, .int .u64 0, .int .u64 0, .int .u64 0, .int .u64 0, .int .u64 0, .int .u64 0, .int .u64 0, .int .u64 0, .int .u64 0, .int .u64 0, .int .u64 0, .int .u64 0, .int .u64 0, .int .u64 0, .int .u64 0, .int .u64 0, .int .u64 0, .int .u64 0, .int .u64 0, .int .u64 0] : List Value).toArray 199)).alloc (.cells #[.int .u64 0, .int .u64 0, .int .u64 0, .int .u64 0, .int .u64 0, .int .u64 0, .int .u64 0, .int .u64 0, .int .u64 0, .int .u64 0, .int .u64 0, .int .u64 0, .int .u64 0, .int .u64 0, .int .u64 0, .int .u64 0, .int .u64 0, .int .u64 0, .int .u64 0, .int .u64 0, .int .u64 0, .int .u64 0, .int .u64 0, .int .u64 0, .int .u64 0, .int .u64 0, .int .u64 0, .int .u64 0] 199) = w0 from hw0] at hz0
  rw [hw0] at hz1
  have hs0 : w0.heap.size = w.heap.size + 2 := by rw [← hw0]; simp only [World.size_alloc]
  have hb0 : Below w.heap.size w w0 := by rw [← hw0]; exact laid2 _ _ _
  have HW0 := Lib.hid hw0
  have HZ0 := Lib.hid hz0
  have HZ1 := Lib.hid hz1
  have HS0 := Lib.hid hs0
  have HB0 := Lib.hid hb0
  clear h hz0 hz1 hw0 hs0 hb0
  refine (callsIn_wide (n := 9)).1 ?_
  refine callsIn_of_wp_marks Tryz.func124 rfl trivial ?_ rfl
  simp only [Tryz.ntmps124, List.size_toArray, List.length_cons, List.length_nil, Nat.reduceAdd, Nat.reduceSub, Array.replicate_succ, Array.replicate_zero, List.push_toArray, List.append_toArray, List.nil_append, List.cons_append]
  gi_wp2_with (first | rw [HW0.out] | (refine ⟨trivial, ?_⟩; gi_at_call 151; refine (taken_any Fence.wide _ trivial rfl p m _).mono ?_; rintro e w' ⟨rfl, rfl⟩))
  obtain ⟨W0, hW0⟩ : ∃ W, (w0.alloc (.cells #[.pointer (some ⟨p, 0, none⟩)] 145)).alloc (.cells #[.int .i64 m] 3) = W := ⟨_, rfl⟩
  have hsW : W0.heap.size = w.heap.size + 4 := by rw [← hW0]; simp only [World.size_alloc]; rw [HS0.out]
  have hbW : Below w0.heap.size w0 W0 := by rw [← hW0]; exact laid2 _ _ _
  have hbx2 : HasCells W0 (w.heap.size + 2) [.pointer (some ⟨p, 0, none⟩)] 145 := by
    rw [← hW0, ← HS0.out]; exact (HasCells.new w0 [.pointer (some ⟨p, 0, none⟩)] _).alloc _
  have hbx1 : HasCells W0 (w.heap.size + 2 + 1) [.int .i64 m] 3 := by
    have h := HasCells.new (w0.alloc (.cells #[.pointer (some ⟨p, 0, none⟩)] 145)) [.int .i64 m] 3
    rw [World.size_alloc, HS0.out] at h
    rw [← hW0]; exact h
  rw [hW0, HS0.out]
  have HBW := Lib.hid (HB0.out.trans (hbW.mono HB0.out.size))
  have HX1 := Lib.hid hbx1
  have HX2 := Lib.hid hbx2
  have HFW := Lib.hid (H.out.after HBW.out)
  have hI0 : HasCells W0 (w.heap.size + 1) (sevC f ([] : List ElT).length) 199 ∧ HasCells W0 w.heap.size [.int .u64 0, .int .u64 0, .int .u64 0, .int .u64 0, .int .u64 0, .int .u64 0, .int .u64 0, .int .u64 0, .int .u64 0, .int .u64 0, .int .u64 0, .int .u64 0, .int .u64 0, .int .u64 0, .int .u64 0, .int .u64 0, .int .u64 0, .int .u64 0, .int .u64 0, .int .u64 0, .int .u64 0, .int .u64 0, .int .u64 0, .int .u64 0, .int .u64 0, .int .u64 0, .int .u64 0, .int .u64 0] 199 ∧ Upf p w f W0 f ∧ w.heap.size + 4 ≤ W0.heap.size :=
    ⟨by rw [List.length_nil, sevC_zero]; exact HZ1.out.after hbW, HZ0.out.after hbW, (Upf.refl p w f).next (Nat.le_of_lt hlt) HBW.out, by omega⟩
  clear hW0 hbW hbx1 hbx2
  refine wpIn_rangeFunc_S rfl (by omega) (gf := 181) (lb := #[.pointer (some ⟨w.heap.size + 2 + 1, 0, none⟩), .pointer (some ⟨w.heap.size + 2, 0, none⟩)]) rfl trivial (enters_of Tryz.func181 (by kernel_rfl) rfl)
    (encs := encT) (Step := StepT p) (Good := GoodT f m) (Kp := KeepS (fun g => g < w.heap.size ∨ g = w.heap.size + 2 ∨ g = w.heap.size + 3)) (S := fun xs W' => xs = popsT f m ∧ Fra p W' (popF f m)) (Sp := fun _ _ => True) (w0 := W0)
    (fun l J Jx W1 hW hJs _ hY h0 => taken_body _ (by omega) l (w.heap.size + 2) p f m hml h63 _ (.inl hlt) (.inr (.inl rfl)) (fun k hk => .inl (by have := (H.out.2.lt k hk).2; omega)) J Jx hJs hY W1 (HX1.out.after hW) (HX2.out.after hW) (by omega) (HFW.out.after hW) h0)
    KeepS.trans (fun W1 l o o' hl _ _ _ => ⟨by simp, fun g hg => World.putObj_heap_other (by omega)⟩) (Below.refl _ _) (fun _ => rfl)
    (fun A B k o hst hk hA _ => (hst.block k (Array.getElem?_eq_some_iff.1 hA).1 (fun e => by cases e; omega)).trans hA)
    (fun pre W1 => HasCells W1 (w.heap.size + 1) (sevC f pre.length) 199 ∧ HasCells W1 w.heap.size [.int .u64 0, .int .u64 0, .int .u64 0, .int .u64 0, .int .u64 0, .int .u64 0, .int .u64 0, .int .u64 0, .int .u64 0, .int .u64 0, .int .u64 0, .int .u64 0, .int .u64 0, .int .u64 0, .int .u64 0, .int .u64 0, .int .u64 0, .int .u64 0, .int .u64 0, .int .u64 0, .int .u64 0, .int .u64 0, .int .u64 0, .int .u64 0, .int .u64 0, .int .u64 0, .int .u64 0, .int .u64 0] 199 ∧ Upf p w f W1 f ∧ w.heap.size + 4 ≤ W1.heap.size)
    (fun _ _ _ => False)
    (fun pre x a' W1 => pre.length < m ∧ x = (pre.length, topT f pre.length) ∧ ∃ xb, a' = { tmps := #[.pointer (some ⟨p, 0, none⟩), .int .i64 m, undef, undef, .pointer (some ⟨w.heap.size, 0, none⟩), .pointer (some ⟨w.heap.size + 1, 0, none⟩), .int .i64 x.1, .pointer (some ⟨xb, 0, none⟩), .pointer (some ⟨p, 0, none⟩), .int .i64 m, .func (.func 181) #[] #[.pointer (some ⟨w.heap.size + 2 + 1, 0, none⟩), .pointer (some ⟨w.heap.size + 2, 0, none⟩)], .int .i64 x.1, .agg #[.int .u64 (limb x.2 0), .int .u64 (limb x.2 1), .int .u64 (limb x.2 2), .int .u64 (limb x.2 3)], undef, undef, undef, undef], defers := [] } ∧ w.heap.size + 4 ≤ xb ∧ HasCells W1 xb [.int .u64 (limb x.2 0), .int .u64 (limb x.2 1), .int .u64 (limb x.2 2), .int .u64 (limb x.2 3)] 24 ∧
      (HasCells W1 (w.heap.size + 1) (sevC f pre.length) 199 ∧ HasCells W1 w.heap.size [.int .u64 0, .int .u64 0, .int .u64 0, .int .u64 0, .int .u64 0, .int .u64 0, .int .u64 0, .int .u64 0, .int .u64 0, .int .u64 0, .int .u64 0, .int .u64 0, .int .u64 0, .int .u64 0, .int .u64 0, .int .u64 0, .int .u64 0, .int .u64 0, .int .u64 0, .int .u64 0, .int .u64 0, .int .u64 0, .int .u64 0, .int .u64 0, .int .u64 0, .int .u64 0, .int .u64 0, .int .u64 0] 199 ∧ Upf p w f W1 f ∧ w.heap.size + 4 ≤ W1.heap.size))
    ?sown ?sown2 ?own ?ownx1 ?ownx ?ist (fun _ _ _ _ h => h.elim) hI0 ?assign ?body ?done (fun _ _ _ _ _ _ h => h.elim)
  case sown =>
    rintro xs W1 W2 row ⟨h1, h2⟩ hg hr
    exact ⟨h1, h2.grownE hg (fun r e => (hr r e).2)⟩
  case sown2 => intro _ _ _ _ _ _ _; trivial
  case own =>
    rintro pre W1 W2 row ⟨h1, h2, h3, h4⟩ hg hr
    have hr2 := fun r e => (hr r e).2
    exact ⟨h1.grownE hg hr2, h2.grownE hg hr2, h3.grown (Nat.le_of_lt hlt) hg (fun r e => by have := (hr r e).1; omega), Nat.le_trans h4 hg.size⟩
  case ownx1 => intro c s W1 W2 row h _ _; exact h
  case ownx =>
    rintro pre x a' _ W1 W2 row ⟨e1, e2, xb, e3, e4, e5, h1, h2, h3, h4⟩ hg hr
    have hr2 := fun r e => (hr r e).2
    exact ⟨e1, e2, xb, e3, e4, e5.grownE hg hr2, h1.grownE hg hr2, h2.grownE hg hr2, h3.grown (Nat.le_of_lt hlt) hg (fun r e => by have := (hr r e).1; omega), Nat.le_trans h4 hg.size⟩
  case ist =>
    rintro pre A B ⟨h1, h2, h3, h4⟩ hst
    exact ⟨h1.kept (hst.block _ h1.lt (fun e => by cases e; omega)), h2.kept (hst.block _ h2.lt (fun e => by cases e; omega)), h3.step (Nat.le_of_lt hlt) hst, Nat.le_trans h4 hst.size⟩
  case assign =>
    rintro l pre x Wa Wb K ⟨h1, h2, h3, h4⟩ hst ⟨hl, -, hx⟩ hK
    have i1 := h1.kept (hst.block _ h1.lt (fun e => by cases e; omega))
    have i2 := h2.kept (hst.block _ h2.lt (fun e => by cases e; omega))
    have i3 := h3.step (Nat.le_of_lt hlt) hst
    have i4 := Nat.le_trans h4 hst.size
    have HI := Lib.hid (And.intro i1 (And.intro i2 (And.intro i3 i4)))
    have HKK := Lib.hid hK
    have HXX := Lib.hid hx
    have HN := Lib.hid (HasCells.new Wb [.int .u64 0, .int .u64 0, .int .u64 0, .int .u64 0] 24)
    clear h1 h2 h3 h4 hst hK hx hI0 i1 i2 i3
    simp only [encT]
    gi_wp2
    have hlo := laid1 Wb (.cells #[.int .u64 (limb x.2 0), .int .u64 (limb x.2 1), .int .u64 (limb x.2 2), .int .u64 (limb x.2 3)] 24)
    obtain ⟨j1, j2, j3, j4⟩ := HI.out
    refine HKK.out _ _ ((KeepsOthers.alloc _ _).from _) ⟨hlo.size, fun g hg => hlo.block g (by rcases hg with hg | hg | hg <;> omega)⟩ ⟨hl, HXX.out, Wb.heap.size, rfl, i4, HasCells.new Wb _ _, j1.after hlo, j2.after hlo, j3.next (Nat.le_of_lt hlt) (hlo.mono (by omega)), by have := hlo.size; omega⟩
  case body =>
    rintro l pre x a' W1 hl - ⟨hpl, rfl, xb, rfl, hxb, hxc, h1, h2, h3, h4⟩
    obtain ⟨k, hk⟩ : ∃ k, pre.length = k := ⟨_, rfl⟩
    have HK := Lib.hid hk
    dsimp only at hxc ⊢
    rw [hk] at hxc h1 hpl ⊢
    have H1 := Lib.hid h1
    have H2 := Lib.hid h2
    have H3 := Lib.hid h3
    have hw : W4 W1 xb 0 (topT f k) := hxc.range
    obtain ⟨z0, z1, z2, z3⟩ := hw.zero
    have k1 : (0 : Int) ≤ k := by omega
    have k2 : (k : Int) < 7 := by omega
    have hne : xb ≠ w.heap.size + 1 := by omega
    clear hI0 hk h1 h2 h3 hxc hw
    gi_wp2_with ((with_reducible refine store_gateI 24 ?_); refine wpListIn_store_midI rfl 24 _ _ rfl (w.heap.size + 1) (k * 4) #[.int .u64 (limb (topT f k) 0), .int .u64 (limb (topT f k) 1), .int .u64 (limb (topT f k) 2), .int .u64 (limb (topT f k) 3)] rfl rfl (H1.out.there _ _ (by rw [sevC_length]; show k * 4 + 4 ≤ 28; omega)) infoW (oneW _) ?_)
    have hs1 := H1.out.sets [.int .u64 (limb (topT f k) 0), .int .u64 (limb (topT f k) 1), .int .u64 (limb (topT f k) 2), .int .u64 (limb (topT f k) 3)] (k * 4)
    rw [spl_sev f k (by omega)] at hs1
    have hot : ∀ q, q ≠ w.heap.size + 1 → (W1.setCells (w.heap.size + 1) (k * 4) [.int .u64 (limb (topT f k) 0), .int .u64 (limb (topT f k) 1), .int .u64 (limb (topT f k) 2), .int .u64 (limb (topT f k) 3)]).heap[q]? = W1.heap[q]? := fun q hq => setCells_other hq _ _ _
    have hsz : W1.heap.size ≤ (W1.setCells (w.heap.size + 1) (k * 4) [.int .u64 (limb (topT f k) 0), .int .u64 (limb (topT f k) 1), .int .u64 (limb (topT f k) 2), .int .u64 (limb (topT f k) 3)]).heap.size := (below_sets (Nat.le_refl _) _ _ _ (Below.refl (w.heap.size + 1) W1)).size
    refine ⟨⟨hsz, fun q o hq ho hc => ?_⟩, ⟨hsz, fun q hq => hot q (by rcases hq with hq | hq | hq <;> omega)⟩, ?_, H2.out.kept (hot _ (by omega)), H3.out.next (Nat.le_of_lt hlt) (below_sets (by omega) _ _ _ (Below.refl _ _)), by omega⟩
    · exact (hot q (by omega)).trans ho
    · rw [List.length_append, HK.out]
      exact hs1
  case done =>
    rintro D xs W1 hD ⟨rfl, hF⟩ ⟨h1, h2, h3, h4⟩ hK
    rw [popsT_length] at h1
    have HF := Lib.hid hF
    have H1 := Lib.hid h1
    have H2 := Lib.hid h2
    have H3 := Lib.hid h3
    have HKD := Lib.hid hK
    clear hI0 hF h1 h2 h3 hK
    gi_wp2_with (first | ((with_reducible refine load_gateI 199 ?_); refine wpListIn_load_midI rfl 199 _ rfl (w.heap.size + 1) 0 rfl (sevC f m) _ H1.out.range Tryz.underlying199 rfl (by rw [sevC_length]; exact infoSeven) ?_) | ((with_reducible refine store_gateI 199 ?_); refine wpListIn_store_midI rfl 199 _ _ rfl w.heap.size 0 (sevC f m).toArray rfl rfl (H2.out.there 0 _ (by simp [sevC_length])) (by rw [List.size_toArray, sevC_length]; exact infoSeven) (sevC_one f m) ?_))
    have hne : D ≠ w.heap.size := by omega
    obtain ⟨Wf, hWf⟩ : ∃ W', W1.setCells w.heap.size 0 (sevC f m) = W' := ⟨_, rfl⟩
    have hot : ∀ q, q ≠ w.heap.size → Wf.heap[q]? = W1.heap[q]? := fun q hq => by rw [← hWf]; exact setCells_other hq _ _ _
    have hK' : Wf.heap[D]? = some (.deferred (some [])) := (hot D hne).trans HKD.out
    have hff : HasCells Wf w.heap.size (sevC f m) 199 := by rw [← hWf]; exact H2.out.whole (by rw [sevC_length]; rfl)
    have hbf : Upf p w f Wf f := by rw [← hWf]; exact H3.out.next (Nat.le_of_lt hlt) (below_sets (Nat.le_refl _) _ _ _ (Below.refl _ _))
    have hF3 : Fra p Wf (popF f m) := ⟨HF.out.1.kept (hot p (by omega)), HF.out.2.of_block fun q e => hot q (fun e2 => by
      have h5 : (popF f m).stk.ownBlock = f.stk.ownBlock := by obtain ⟨a, c, hfs⟩ := H.out.2.form; unfold popF; rw [hfs]; cases a <;> rfl
      rw [h5] at e
      have := (H.out.2.lt q e).2
      omega)⟩
    rw [hWf]
    have hgr : Wf.grownBy (Wf.putObj D (.deferred none)) (some D) := grownBy_putObj' Wf D _
    have hrow : ∀ r, some D = some r → ∃ o : Obj, Wf.heap[r]? = some o ∧ o.isCells = false := fun r e => by cases e; exact ⟨_, hK', rfl⟩
    refine ⟨by simp, .inl ⟨_, _, rfl, run_takeDeferred hK', ?_⟩⟩
    refine ⟨_, results_cells rfl _ _ w.heap.size (sevC f m) _ (by rfl) (hff.grownE hgr hrow).range Tryz.underlying199 rfl (by rw [sevC_length]; exact infoSeven), ?_⟩
    have hown : (popF f m).stk.ownBlock = f.stk.ownBlock := by obtain ⟨a, c, hfs⟩ := H.out.2.form; unfold popF; rw [hfs]; cases a <;> rfl
    have hug := hbf.grown (Nat.le_of_lt hlt) hgr (fun r e => by cases e; omega)
    exact ⟨rfl, ⟨hug.below, hug.block, fun k e => .inl (hown ▸ e)⟩, hF3.grownE hgr hrow⟩
end Go.Proofs.YtlelgbmbmajfmaaGreatDoor

namespace Go.Proofs.YtlelgbmbmajfmaaGreatDoor
open Go.RowKit Go.Shelf Go.Lib
attribute [local go_sem] Oper.semAt_some
theorem of_any (n : Nat) (w : World) : Calls Tryz.prog 45 #[.int .u64 n] w fun e w' => e = .returned (.agg #[.int .u64 n, .int .u64 0, .int .u64 0, .int .u64 0]) ∧ Below w.heap.size w w' := by
  have HN := Lib.hid (HasCells.new w [.int .u64 0, .int .u64 0, .int .u64 0, .int .u64 0] 24)
  go_enter Tryz.func45, Tryz.ntmps45
  go_wp2_with ((with_reducible refine store_gateK 24 ?_); refine wpList_store_mid rfl 24 _ _ rfl w.heap.size 0 #[.int .u64 n, .int .u64 0, .int .u64 0, .int .u64 0] rfl rfl (HN.out.there 0 4 (by decide)) infoW (by simp [Value.oneCell']) ?_)
  refine bodyPost_ret (results_cells rfl _ _ w.heap.size [.int .u64 n, .int .u64 0, .int .u64 0, .int .u64 0] _ (by rfl) ((HN.out.sets [.int .u64 n, .int .u64 0, .int .u64 0, .int .u64 0] 0).range) Tryz.underlying24 rfl infoW) rfl ?_
  exact ⟨rfl, below_sets (Nat.le_refl _) _ _ _ (laid1 w _)⟩
def hiZ (v : Nat) : Bool := ((limb v 1 : Int) == 0 && ((limb v 2 : Int) == 0 && (limb v 3 : Int) == 0))
theorem hiZ_iff {v : Nat} (hv : v < 256 ^ 32) : hiZ v = true ↔ v < 18446744073709551616 := by
  have h := ofLimbs_limb hv
  unfold hiZ
  simp only [Bool.and_eq_true, beq_iff_eq]
  constructor
  · rintro ⟨h1, h2, h3⟩
    have e1 : limb v 1 = 0 := by omega
    have e2 : limb v 2 = 0 := by omega
    have e3 : limb v 3 = 0 := by omega
    have e0 : limb v 0 < 256 ^ 8 := Nat.mod_lt _ (by decide)
    rw [e1, e2, e3] at h
    unfold ofLimbs at h
    rw [p8] at e0
    omega
  · intro hlt
    have e : ∀ k, 0 < k → limb v k = 0 := fun k hk => by
      unfold limb
      have hp : 256 ^ (8 * 1) ≤ 256 ^ (8 * k) := Nat.pow_le_pow_right (by decide) (by omega)
      rw [Nat.div_eq_of_lt (Nat.lt_of_lt_of_le (by rw [Nat.mul_one, p8]; exact hlt) hp), Nat.zero_mod]
    rw [e 1 (by omega), e 2 (by omega), e 3 (by omega)]
    exact ⟨rfl, rfl, rfl⟩
theorem limb_low {v : Nat} (h : v < 18446744073709551616) : limb v 0 = v := by
  unfold limb
  rw [Nat.mul_zero, Nat.pow_zero, Nat.div_one, p8]
  exact Nat.mod_eq_of_lt h
theorem eq_low (v : Nat) (W : World) : (Op.equalIn 10000 24 (.agg #[.int .u64 (limb v 0), .int .u64 (limb v 1), .int .u64 (limb v 2), .int .u64 (limb v 3)]) (.agg #[.int .u64 (limb v 0), .int .u64 0, .int .u64 0, .int .u64 0])).run Tryz.prog W = .ok (hiZ v) W := by
  rw [eq_word]
  unfold hiZ
  simp
set_option maxRecDepth 100000 in
set_option maxHeartbeats 6400000 in
theorem small_any (v : Nat) (hv : v < 256 ^ 32) (w : World) : Calls Tryz.prog 186 #[.agg #[.int .u64 (limb v 0), .int .u64 (limb v 1), .int .u64 (limb v 2), .int .u64 (limb v 3)]] w fun e w' => e = .returned (.tuple #[.int .u64 (limb v 0), .bool (decide (v ≤ 65536))]) ∧ Below w.heap.size w w' := by
  have hw := W4.new w v 24
  have HC := Lib.hid hw.zero
  have HCB := Lib.hid (fun W1 (hb : Below (w.alloc (.cells #[.int .u64 (limb v 0), .int .u64 (limb v 1), .int .u64 (limb v 2), .int .u64 (limb v 3)] 24)).heap.size (w.alloc (.cells #[.int .u64 (limb v 0), .int .u64 (limb v 1), .int .u64 (limb v 2), .int .u64 (limb v 3)] 24)).drew W1) => (hw.after ((Below.refl _ _).drew.trans hb)).zero)
  have HLO := Lib.hid (laid1 w (.cells #[.int .u64 (limb v 0), .int .u64 (limb v 1), .int .u64 (limb v 2), .int .u64 (limb v 3)] 24))
  have hq := eq_low v
  have hiff := hiZ_iff hv
  have hlow := @limb_low v
  cases hz : hiZ v with
  | true =>
    rw [hz] at hq hiff
    have hv2 : v < 18446744073709551616 := hiff.1 rfl
    have hv3 : limb v 0 = v := hlow hv2
    have g1 : decide ((limb v 0 : Int) ≤ 65536) = decide (v ≤ 65536) := by rw [hv3]; rw [decide_eq_decide]; omega
    have HG1 := Lib.hid g1
    clear hiff hlow hv hv2 hv3 hw hz g1
    go_enter Tryz.func186, Tryz.ntmps186
    go_wp2_with fail
    refine wp_region_held_drew (S := (fun W => W.cell? ⟨w.heap.size, 0, none⟩ = some (.int .u64 (limb v 0)) ∧ W.cell? ⟨w.heap.size, 1, none⟩ = some (.int .u64 (limb v 1)) ∧ W.cell? ⟨w.heap.size, 2, none⟩ = some (.int .u64 (limb v 2)) ∧ W.cell? ⟨w.heap.size, 3, none⟩ = some (.int .u64 (limb v 3)))) (by kernel_rfl) (HC.out) (fun hHeld => ?_)
    refine hT 0 ?_
    refine hD 1 ?_
    refine hD 2 ?_
    refine hT 3 ?_
    refine hD 4 ?_
    refine wpAnyH_ready (rs := [5]) (by kernel_rfl) (by simp) ?_
    refine AllReadyH.cons rfl (fun K hK => ?_) AllReadyH.nil
    go_simp
    go_at_call 45
    refine (of_any (limb v 0) _).mono ?_
    rintro e w1 ⟨rfl, hb1⟩
    have HB1 := Lib.hid (hb1)
    refine hK.out _ _ (HCB.out _ hb1) (fun hHeld => ?_)
    clear hK K
    try simp only [Act.put, zq]
    refine hT 6 ?_
    refine hT 7 ?_
    refine hT 8 ?_
    refine hD 9 ?_
    refine hT 10 ?_
    refine hT 11 ?_
    refine hT 12 ?_
    refine hT 13 ?_
    refine wpAnyH_done (by kernel_rfl) ?_ 0
    go_wp2_with fail
    go_ret2
    exact ⟨by rw [HG1.out]; rfl, HLO.out.drew.trans (hb1.mono HLO.out.drew.size)⟩
  | false =>
    rw [hz] at hq hiff
    have hv2 : ¬ v ≤ 65536 := fun h => by have := hiff.2 (by omega); cases this
    rw [decide_eq_false hv2]
    clear hiff hlow hv hv2 hw hz
    go_enter Tryz.func186, Tryz.ntmps186
    go_wp2_with fail
    refine wp_region_held_drew (S := (fun W => W.cell? ⟨w.heap.size, 0, none⟩ = some (.int .u64 (limb v 0)) ∧ W.cell? ⟨w.heap.size, 1, none⟩ = some (.int .u64 (limb v 1)) ∧ W.cell? ⟨w.heap.size, 2, none⟩ = some (.int .u64 (limb v 2)) ∧ W.cell? ⟨w.heap.size, 3, none⟩ = some (.int .u64 (limb v 3)))) (by kernel_rfl) (HC.out) (fun hHeld => ?_)
    refine hT 0 ?_
    refine hD 1 ?_
    refine hD 2 ?_
    refine hT 3 ?_
    refine hD 4 ?_
    refine wpAnyH_ready (rs := [5]) (by kernel_rfl) (by simp) ?_
    refine AllReadyH.cons rfl (fun K hK => ?_) AllReadyH.nil
    go_simp
    go_at_call 45
    refine (of_any (limb v 0) _).mono ?_
    rintro e w1 ⟨rfl, hb1⟩
    have HB1 := Lib.hid (hb1)
    refine hK.out _ _ (HCB.out _ hb1) (fun hHeld => ?_)
    clear hK K
    try simp only [Act.put, zq]
    refine hT 6 ?_
    refine hT 7 ?_
    refine hV 8 ?_
    refine hV 9 ?_
    refine hV 10 ?_
    refine hT 11 ?_
    refine hT 12 ?_
    refine hT 13 ?_
    refine wpAnyH_done (by kernel_rfl) ?_ 0
    go_wp2_with fail
    go_ret2
    exact ⟨rfl, HLO.out.drew.trans (hb1.mono HLO.out.drew.size)⟩
/-- a text is copied into a row -/
theorem run_copyS {P : Program} (w : World) (dT sT ty elem : TypeId) (b o dLen dCap : Nat) (s : List UInt8) (hu : P.underlying dT = some (.slice elem)) (hs : (P.info? elem).map (·.size) = some 1) (hle : s.length ≤ dLen)
    (hc : ∀ j, j < s.length → (w.cell? ⟨b, o + j, none⟩).isSome = true) (hf : ∀ j, j < s.length → w.frozen? ⟨b, o + j, none⟩ = false) :
    (Builtin.copy_ #[dT, sT] ty #[.slice (some ⟨b, o, none⟩) dLen dCap, .string ⟨s.toArray⟩]).run P w = .ok (goInt s.length) (w.setCells b o (Lib.byteCells s)) := by
  have hlen : (Lib.byteCells s).length = s.length := Lib.byteCells_length _
  have hst := run_storeCells_cells (P := P) b o (Lib.byteCells s) 0 w (by rw [hlen]; simpa using hc) (by rw [hlen]; simpa using hf) (byteCells_one _)
  have hmin : Nat.min (⟨s.toArray⟩ : ByteArray).size dLen = s.length := Nat.min_eq_left hle
  have htk : List.take s.length (List.map (fun b : UInt8 => Value.int IntKind.u8 (b.toNat : Int)) s) = Lib.byteCells s := by
    rw [List.take_of_length_le (by rw [List.length_map]; exact Nat.le_refl _)]
    rfl
  simp only [Nat.add_zero] at hst
  cases hq : P.info? elem with
  | none => simp [hq] at hs
  | some i =>
    have hi : i.size = 1 := by simpa [hq] using hs
    simp [Builtin.copy_, run_underlying hu, Builtin.lenOf, Builtin.firstCells, sizeOf, typeInfo, hq, hmin, htk, hst]
def putE (m : List UInt8) (off : Nat) (s : List UInt8) : List UInt8 := m.take off ++ s ++ m.drop (off + s.length)
theorem putE_length {m : List UInt8} {off : Nat} {s : List UInt8} (h : off + s.length ≤ m.length) : (putE m off s).length = m.length := by
  unfold putE
  simp only [List.length_append, List.length_take, List.length_drop]
  omega
theorem putE_at {m : List UInt8} {off : Nat} {s : List UInt8} (h : off + s.length ≤ m.length) (j : Nat) : (putE m off s)[j]? = if off ≤ j ∧ j < off + s.length then s[j - off]? else m[j]? := by
  unfold putE
  have h1 : (m.take off).length = off := by rw [List.length_take]; omega
  by_cases hj : j < off
  · rw [if_neg (by omega), List.append_assoc, List.getElem?_append_left (by omega), List.getElem?_take, if_pos hj]
  · by_cases hj2 : j < off + s.length
    · rw [if_pos ⟨by omega, hj2⟩, List.append_assoc, List.getElem?_append_right (by omega), h1, List.getElem?_append_left (by omega)]
    · rw [if_neg (by omega), List.getElem?_append_right (by simp only [List.length_append, h1]; omega), List.getElem?_drop]
      congr 1
      simp only [List.length_append, h1]
      omega
set_option maxRecDepth 100000 in
set_option maxHeartbeats 6400000 in
theorem put_any (m s : List UInt8) (off : Nat) (w : World) (_ : m.length ≤ 1099511627776) (h : off + s.length ≤ m.length) (h0 : 0 < s.length) : Calls Tryz.prog 174 #[.string ⟨m.toArray⟩, .int .u64 off, .string ⟨s.toArray⟩] w fun e w' => e = .returned (.string ⟨(putE m off s).toArray⟩) ∧ Below w.heap.size w w' := by
  have HP := Lib.hid (putE_length h)
  have HPA := Lib.hid (putE_at h)
  obtain ⟨n, hn⟩ : ∃ n, m.length = n := ⟨_, rfl⟩
  rw [hn] at h HP
  have HN := Lib.hid hn
  obtain ⟨M, hM⟩ : ∃ M, putE m off s = M := ⟨_, rfl⟩
  rw [hM] at HP HPA ⊢
  clear hM hn
  go_enter Tryz.func174, Tryz.ntmps174
  go_wp2_with ((with_reducible refine conv_gate 9 55 ?_); refine wpList_bytesOf rfl 9 55 _ rfl 5 Tryz.underlying9 Tryz.underlying55 Tryz.underlying5 ⟨m.toArray⟩ rfl ?_; intro v0 w1 ho0 hgr; have HO0 := Lib.hid ho0; have HGR := Lib.hid hgr; clear ho0 hgr)
  obtain ⟨g, cap, hv0, hg1, hg2, hg3, hg4, hg5⟩ : ∃ g cap, v0 = .slice (some ⟨g, 0, none⟩) n cap ∧ w.heap.size ≤ g ∧ g < w1.heap.size ∧ n ≤ cap ∧ (∀ j u, (Lib.byteCells m)[j]? = some u → w1.cell? ⟨g, j, none⟩ = some u) ∧ ∀ j, j < cap → (w1.cell? ⟨g, j, none⟩).isSome = true ∧ w1.frozen? ⟨g, j, none⟩ = false := by
    rcases HO0.out with ⟨_, he⟩ | ⟨g, cap, hv0, hr⟩
    · have e2 : m.length = 0 := congrArg List.length he
      have := HN.out
      omega
    · rw [show (ByteArray.data ⟨m.toArray⟩).toList.length = n from HN.out] at hv0 hr
      exact ⟨g, cap, hv0, hr⟩
  subst hv0
  have k1 : (0 : Int) ≤ off := by omega
  have k2 : (off : Int) ≤ n := by omega
  have k2' : off ≤ n := by omega
  have k6 : ¬ cap = off := by omega
  have k3 : (n : Int) ≤ cap := by omega
  have hcp := fun ty => run_copyS (P := Tryz.prog) w1 55 9 ty 5 g off (n - off) (cap - off) s Tryz.underlying55 (by kernel_rfl) (by omega) (fun j hj => (hg5 (off + j) (by omega)).1) (fun j hj => (hg5 (off + j) (by omega)).2)
  obtain ⟨w2, hw2⟩ : ∃ W, w1.setCells g off (Lib.byteCells s) = W := ⟨_, rfl⟩
  have hM : ∀ j (hj : j < M.length), w2.cell? ((⟨g, 0, none⟩ : Addr).add j) = some (.int .u8 (M[j].toNat : Int)) := fun j hj => by
    rw [show ((⟨g, 0, none⟩ : Addr).add j) = ⟨g, j, none⟩ from by cases j <;> simp [Addr.add]]
    have h1 := HPA.out j
    rw [List.getElem?_eq_getElem hj] at h1
    rw [← hw2]
    by_cases hc : off ≤ j ∧ j < off + s.length
    · rw [if_pos hc] at h1
      obtain ⟨i, rfl⟩ : ∃ i, j = off + i := ⟨j - off, by omega⟩
      have hi : i < s.length := by omega
      have h2 := World.cell?_setCells_in g (Lib.byteCells s) off w1 (fun q hq => (hg5 (off + q) (by rw [Lib.byteCells_length] at hq; omega)).1) i (by rw [Lib.byteCells_length]; exact hi)
      rw [h2]
      rw [Nat.add_sub_cancel_left, List.getElem?_eq_getElem hi] at h1
      rw [Option.some.inj h1]
      simp [Lib.byteCells]
    · rw [if_neg hc] at h1
      have hjm : j < m.length := by rw [HN.out, ← HP.out]; exact hj
      rw [World.cell?_setCells_out g _ off w1 ⟨g, j, none⟩ (fun _ _ => by rw [Lib.byteCells_length]; show j < off ∨ off + s.length ≤ j; omega)]
      refine hg4 j _ ?_
      rw [List.getElem?_eq_getElem hjm] at h1
      rw [Option.some.inj h1]
      simp [Lib.byteCells, hjm]
  have hcv := run_convert_bytes_back (P := Tryz.prog) w2 55 9 5 ⟨g, 0, none⟩ cap M Tryz.underlying55 Tryz.underlying5 Tryz.underlying9 hM
  rw [HP.out] at hcv
  rw [hw2] at hcp
  have HBB := Lib.hid (show Below w.heap.size w w2 from by rw [← hw2]; exact below_sets hg1 _ _ _ ((Below.refl _ _).grown HGR.out (Nat.le_refl _) (fun r e => by cases e)))
  have k4 : ((n - off : Nat) : Int) = (n : Int) - off := by omega
  have k5 : ((cap - off : Nat) : Int) = (cap : Int) - off := by omega
  clear hg4 hg5 hM hw2
  go_simp
  go_wp2
  go_ret
  exact ⟨rfl, HBB.out⟩
end Go.Proofs.YtlelgbmbmajfmaaGreatDoor

namespace Go.Proofs.YtlelgbmbmajfmaaGreatDoor
open Go.RowKit Go.Shelf Go.Lib
attribute [local go_sem] Oper.semAt_some
theorem small_yes (v : Nat) (hv : v ≤ 65536) (w : World) : Calls Tryz.prog 186 #[.agg #[.int .u64 (limb v 0), .int .u64 (limb v 1), .int .u64 (limb v 2), .int .u64 (limb v 3)]] w fun e w' => e = .returned (.tuple #[.int .u64 v, .bool true]) ∧ Below w.heap.size w w' := by
  have h := small_any v (by rw [p32]; omega) w
  rw [limb_low (by omega), decide_eq_true hv] at h
  rw [limb_low (by omega)]
  exact h
theorem small_no (v : Nat) (h32 : v < 256 ^ 32) (hv : ¬ v ≤ 65536) (w : World) : Calls Tryz.prog 186 #[.agg #[.int .u64 (limb v 0), .int .u64 (limb v 1), .int .u64 (limb v 2), .int .u64 (limb v 3)]] w fun e w' => e = .returned (.tuple #[.int .u64 (limb v 0), .bool false]) ∧ Below w.heap.size w w' := by
  have h := small_any v h32 w
  rw [decide_eq_false hv] at h
  exact h
theorem eq_nought (v : Nat) (hv : v < 256 ^ 32) (W : World) : (Op.equalIn 10000 24 (.agg #[.int .u64 (limb v 0), .int .u64 (limb v 1), .int .u64 (limb v 2), .int .u64 (limb v 3)]) (.agg #[.int .u64 0, .int .u64 0, .int .u64 0, .int .u64 0])).run Tryz.prog W = .ok (decide (v = 0)) W := by
  have h := eq_wordV hv (show 0 < 256 ^ 32 by decide) W
  unfold wordV at h
  simp only [limb_nought] at h
  exact h
set_option maxRecDepth 100000 in
theorem store_any (m : List UInt8) (off v : Nat) (w : World) (hm : m.length ≤ 1099511627776) (h : off + 32 ≤ m.length) : Calls Tryz.prog 138 #[.string ⟨m.toArray⟩, .int .u64 off, .agg #[.int .u64 (limb v 0), .int .u64 (limb v 1), .int .u64 (limb v 2), .int .u64 (limb v 3)]] w fun e w' =>
    e = .returned (.tuple #[.string ⟨(putE m off (be 32 v)).toArray⟩, .int .i64 0]) ∧ Below w.heap.size w w' := by
  have H1 := Lib.hid (fun W => has_any m off 32 W hm)
  rw [decide_eq_true h] at H1
  have hbe : (be 32 v).length = 32 := be_length 32 v
  have H2 := Lib.hid (fun W => wordBytes_any v W)
  have H3 := Lib.hid (fun W => put_any m (be 32 v) off W hm (by omega) (by omega))
  obtain ⟨z0, z1, z2, z3⟩ := (W4.new w v 24).zero
  have HLO := Lib.hid (laid1 w (.cells #[.int .u64 (limb v 0), .int .u64 (limb v 1), .int .u64 (limb v 2), .int .u64 (limb v 3)] 24))
  unfold wordV at H2
  clear h hbe
  go_enter Tryz.func138, Tryz.ntmps138
  go_wp2_with fail
  refine (H1.out _).mono ?_
  rintro e w1 ⟨rfl, rfl⟩
  go_wp2_with fail
  refine (H2.out _).mono ?_
  rintro e w2 ⟨rfl, hb2⟩
  have HB2 := Lib.hid (HLO.out.trans (hb2.mono HLO.out.size))
  clear hb2 z0 z1 z2 z3
  go_wp2_with fail
  refine (H3.out _).mono ?_
  rintro e w3 ⟨rfl, hb3⟩
  have HB3 := Lib.hid (HB2.out.trans (hb3.mono HB2.out.size))
  clear hb3
  go_wp2_with fail
  go_ret2
  exact ⟨rfl, HB3.out⟩
def endM (off n : Nat) : Nat := (off + n + 31) / 32 * 32
def needE (m : List UInt8) (off n : Nat) : Option (List UInt8 × Nat) :=
  if n = 0 then some (m, 0) else if off ≤ 65536 ∧ n ≤ 65536 ∧ off + n ≤ 65536 then (if endM off n ≤ m.length then some (m, 0) else some (m ++ List.replicate (endM off n - m.length) 0, costE (endM off n) - costE m.length)) else none
def needV (m : List UInt8) : Option (List UInt8 × Nat) → Value
  | none => .tuple #[.string ⟨m.toArray⟩, .int .u64 0, .bool false]
  | some (r, c) => .tuple #[.string ⟨r.toArray⟩, .int .u64 c, .bool true]
theorem W4.alloc {W : World} {g o v : Nat} (h : W4 W g o v) (ob : Obj) : W4 (W.alloc ob) g o v := h.after (laid1 W ob)
set_option maxRecDepth 100000 in
set_option maxHeartbeats 6400000 in
theorem need_any (m : List UInt8) (off n : Nat) (w : World) (hm : m.length ≤ 131072) (ho : off < 256 ^ 32) (hn : n < 256 ^ 32) : Calls Tryz.prog 169 #[.string ⟨m.toArray⟩, .agg #[.int .u64 (limb off 0), .int .u64 (limb off 1), .int .u64 (limb off 2), .int .u64 (limb off 3)], .agg #[.int .u64 (limb n 0), .int .u64 (limb n 1), .int .u64 (limb n 2), .int .u64 (limb n 3)]] w fun e w' =>
    e = .returned (needV m (needE m off n)) ∧ Below w.heap.size w w' := by
  have zo := (W4.new w off 24).alloc (.cells #[.int .u64 (limb n 0), .int .u64 (limb n 1), .int .u64 (limb n 2), .int .u64 (limb n 3)] 24)
  have zn : W4 ((w.alloc (.cells #[.int .u64 (limb off 0), .int .u64 (limb off 1), .int .u64 (limb off 2), .int .u64 (limb off 3)] 24)).alloc (.cells #[.int .u64 (limb n 0), .int .u64 (limb n 1), .int .u64 (limb n 2), .int .u64 (limb n 3)] 24)) (w.heap.size + 1) 0 n := by
    have h := W4.new (w.alloc (.cells #[.int .u64 (limb off 0), .int .u64 (limb off 1), .int .u64 (limb off 2), .int .u64 (limb off 3)] 24)) n 24
    rwa [World.size_alloc] at h
  have HLO := Lib.hid (laid2 w (.cells #[.int .u64 (limb off 0), .int .u64 (limb off 1), .int .u64 (limb off 2), .int .u64 (limb off 3)] 24) (.cells #[.int .u64 (limb n 0), .int .u64 (limb n 1), .int .u64 (limb n 2), .int .u64 (limb n 3)] 24))
  obtain ⟨W0, hW0⟩ : ∃ W, (w.alloc (.cells #[.int .u64 (limb off 0), .int .u64 (limb off 1), .int .u64 (limb off 2), .int .u64 (limb off 3)] 24)).alloc (.cells #[.int .u64 (limb n 0), .int .u64 (limb n 1), .int .u64 (limb n 2), .int .u64 (limb n 3)] 24) = W := ⟨_, rfl⟩
  rw [hW0] at zo zn HLO
  have HW0 := Lib.hid hW0
  have HZO := Lib.hid zo
  have HZN := Lib.hid zn
  obtain ⟨y0, y1, y2, y3⟩ := zo.zero
  obtain ⟨z0, z1, z2, z3⟩ := zn.zero
  have hq := eq_nought n hn
  clear zo zn hW0
  by_cases h0 : n = 0
  · have hr : needE m off n = some (m, 0) := by unfold needE; rw [if_pos h0]
    rw [hr]
    rw [decide_eq_true h0] at hq
    clear hr h0
    go_enter Tryz.func169, Tryz.ntmps169
    go_wp2_with (rw [HW0.out])
    refine bodyPost_ret (results_tmp3E rfl _ _) rfl ?_
    exact ⟨rfl, HLO.out⟩
  · rw [decide_eq_false h0] at hq
    obtain ⟨R, hR⟩ : ∃ R, needE m off n = R := ⟨_, rfl⟩
    rw [hR]
    have HR := Lib.hid hR
    unfold needE at HR
    rw [if_neg h0] at HR
    clear hR h0
    by_cases ha : off ≤ 65536
    · have HA := Lib.hid (fun W => small_yes off ha W)
      by_cases hb : n ≤ 65536
      · have HB := Lib.hid (fun W => small_yes n hb W)
        have k1 : IntKind.u64.wrap ((off : Int) + n) = (off : Int) + n := by rw [IntKind.wrap_u64]; omega
        by_cases hs : off + n ≤ 65536
        · have k2 : ¬ ((65536 : Int) < (off : Int) + n) := by omega
          have k3 : IntKind.u64.wrap ((off : Int) + n + 32) = (off : Int) + n + 32 := by rw [IntKind.wrap_u64]; omega
          have k4 : IntKind.u64.wrap ((off : Int) + n + 32 - 1) = (off : Int) + n + 31 := by rw [IntKind.wrap_u64]; omega
          have k4' : (off : Int) + n + 32 - 1 = (off : Int) + n + 31 := by omega
          have k5 : IntKind.i64.wrap ((off : Int) + n + 31) = (off : Int) + n + 31 := by rw [IntKind.wrap_i64]; omega
          obtain ⟨q, hqq⟩ : ∃ q, (off + n + 31) / 32 = q := ⟨_, rfl⟩
          have k6 : ((off : Int) + n + 31).tdiv 32 = (q : Int) := by rw [Int.tdiv_eq_ediv_of_nonneg (by omega)]; omega
          have k6' : IntKind.i64.wrap (q : Int) = (q : Int) := by rw [IntKind.wrap_i64]; omega
          have k7 : IntKind.i64.wrap ((q : Int) * 32) = ((q * 32 : Nat) : Int) := by rw [IntKind.wrap_i64]; omega
          have k7' : (q : Int) * 32 = ((q * 32 : Nat) : Int) := by omega
          have hE : endM off n = q * 32 := by unfold endM; rw [hqq]
          rw [if_pos ⟨ha, hb, hs⟩, hE] at HR
          have hE2 : q * 32 ≤ 65567 := by omega
          obtain ⟨E, hEE⟩ : ∃ E, q * 32 = E := ⟨_, rfl⟩
          rw [hEE] at HR k7 k7' hE2
          obtain ⟨N, hN⟩ : ∃ N, m.length = N := ⟨_, rfl⟩
          have hsz : (⟨m.toArray⟩ : ByteArray).size = N := by rw [sizeE, hN]
          rw [hN] at HR hm
          have HNN := Lib.hid hN
          clear hqq hE hEE hN
          by_cases he : E ≤ N
          · rw [if_pos he] at HR
            have k8 : (E : Int) ≤ N := by omega
            have hr := HR.out
            subst hr
            clear HR
            go_enter Tryz.func169, Tryz.ntmps169
            go_wp2_with (rw [HW0.out])
            refine (HA.out _).mono ?_
            rintro e w1 ⟨rfl, hb1⟩
            have HB1 := Lib.hid (HLO.out.trans (hb1.mono HLO.out.size))
            have hz1 := HZN.out.after hb1
            clear y0 y1 y2 y3 z0 z1 z2 z3 hq
            obtain ⟨z0, z1, z2, z3⟩ := hz1.zero
            clear hb1 hz1
            go_wp2_with fail
            refine (HB.out _).mono ?_
            rintro e w2 ⟨rfl, hb2⟩
            have HB2 := Lib.hid (HB1.out.trans (hb2.mono HB1.out.size))
            clear hb2 z0 z1 z2 z3
            go_wp2_with fail
            refine bodyPost_ret (results_tmp3E rfl _ _) rfl ?_
            exact ⟨rfl, HB2.out⟩
          · rw [if_neg he] at HR
            have k8 : ¬ ((E : Int) ≤ N) := by omega
            have k9 : IntKind.i64.wrap ((E : Int) - N) = ((E - N : Nat) : Int) := by rw [IntKind.wrap_i64]; omega
            have k9' : (E : Int) - N = ((E - N : Nat) : Int) := by omega
            have HZ := Lib.hid (fun W => zerosE (E - N) (by omega) W)
            have HC1 := Lib.hid (fun W => cost_any E W (by omega))
            have HC2 := Lib.hid (fun W => cost_any N W hm)
            have hcl : costE E ≤ 100000 := costE_le (by omega)
            have hcm : costE N ≤ costE E := costE_mono (by omega)
            obtain ⟨c1, hc1⟩ : ∃ c, costE E = c := ⟨_, rfl⟩
            obtain ⟨c2, hc2⟩ : ∃ c, costE N = c := ⟨_, rfl⟩
            rw [hc1] at HC1 HR hcl hcm
            rw [hc2] at HC2 HR hcm
            have k10 : IntKind.u64.wrap ((c1 : Int) - c2) = ((c1 - c2 : Nat) : Int) := by rw [IntKind.wrap_u64]; omega
            have k10' : (c1 : Int) - c2 = ((c1 - c2 : Nat) : Int) := by omega
            have k11 : (⟨m.toArray⟩ ++ ⟨(List.replicate (E - N) 0).toArray⟩ : ByteArray) = ⟨(m ++ List.replicate (E - N) 0).toArray⟩ := appE _ _
            clear hc1 hc2 he
            have hr := HR.out
            subst hr
            clear HR
            go_enter Tryz.func169, Tryz.ntmps169
            go_wp2_with (rw [HW0.out])
            refine (HA.out _).mono ?_
            rintro e w1 ⟨rfl, hb1⟩
            have HB1 := Lib.hid (HLO.out.trans (hb1.mono HLO.out.size))
            have hz1 := HZN.out.after hb1
            clear y0 y1 y2 y3 z0 z1 z2 z3 hq
            obtain ⟨z0, z1, z2, z3⟩ := hz1.zero
            clear hb1 hz1
            go_wp2_with fail
            refine (HB.out _).mono ?_
            rintro e w2 ⟨rfl, hb2⟩
            have HB2 := Lib.hid (HB1.out.trans (hb2.mono HB1.out.size))
            clear hb2 z0 z1 z2 z3
            go_wp2_with fail
            refine (HZ.out _).mono ?_
            rintro e w3 ⟨rfl, hb3⟩
            have HB3 := Lib.hid (HB2.out.trans (hb3.mono HB2.out.size))
            clear hb3
            go_wp2_with fail
            refine (HC1.out _).mono ?_
            rintro e w4 ⟨rfl, rfl⟩
            go_wp2_with fail
            refine (HC2.out _).mono ?_
            rintro e w5 ⟨rfl, rfl⟩
            go_wp2_with fail
            refine bodyPost_ret (results_tmp3E rfl _ _) rfl ?_
            exact ⟨rfl, HB3.out⟩
        · have k2 : (65536 : Int) < (off : Int) + n := by omega
          rw [if_neg (by omega)] at HR
          have hr := HR.out
          subst hr
          clear HR
          go_enter Tryz.func169, Tryz.ntmps169
          go_wp2_with (rw [HW0.out])
          refine (HA.out _).mono ?_
          rintro e w1 ⟨rfl, hb1⟩
          have HB1 := Lib.hid (HLO.out.trans (hb1.mono HLO.out.size))
          have hz1 := HZN.out.after hb1
          clear y0 y1 y2 y3 z0 z1 z2 z3 hq
          obtain ⟨z0, z1, z2, z3⟩ := hz1.zero
          clear hb1 hz1
          go_wp2_with fail
          refine (HB.out _).mono ?_
          rintro e w2 ⟨rfl, hb2⟩
          have HB2 := Lib.hid (HB1.out.trans (hb2.mono HB1.out.size))
          clear hb2 z0 z1 z2 z3
          go_wp2_with fail
          refine bodyPost_ret (results_tmp3E rfl _ _) rfl ?_
          exact ⟨rfl, HB2.out⟩
      · have HB := Lib.hid (fun W => small_no n hn hb W)
        rw [if_neg (by omega)] at HR
        have hr := HR.out
        subst hr
        clear HR
        go_enter Tryz.func169, Tryz.ntmps169
        go_wp2_with (rw [HW0.out])
        refine (HA.out _).mono ?_
        rintro e w1 ⟨rfl, hb1⟩
        have HB1 := Lib.hid (HLO.out.trans (hb1.mono HLO.out.size))
        have hz1 := HZN.out.after hb1
        clear y0 y1 y2 y3 z0 z1 z2 z3 hq
        obtain ⟨z0, z1, z2, z3⟩ := hz1.zero
        clear hb1 hz1
        go_wp2_with fail
        refine (HB.out _).mono ?_
        rintro e w2 ⟨rfl, hb2⟩
        have HB2 := Lib.hid (HB1.out.trans (hb2.mono HB1.out.size))
        clear hb2 z0 z1 z2 z3
        go_wp2_with fail
        refine bodyPost_ret (results_tmp3E rfl _ _) rfl ?_
        exact ⟨rfl, HB2.out⟩
    · have HA := Lib.hid (fun W => small_no off ho ha W)
      rw [if_neg (by omega)] at HR
      by_cases hb : n ≤ 65536
      · have HB := Lib.hid (fun W => small_yes n hb W)
        have hr := HR.out
        subst hr
        clear HR
        go_enter Tryz.func169, Tryz.ntmps169
        go_wp2_with (rw [HW0.out])
        refine (HA.out _).mono ?_
        rintro e w1 ⟨rfl, hb1⟩
        have HB1 := Lib.hid (HLO.out.trans (hb1.mono HLO.out.size))
        have hz1 := HZN.out.after hb1
        clear y0 y1 y2 y3 z0 z1 z2 z3 hq
        obtain ⟨z0, z1, z2, z3⟩ := hz1.zero
        clear hb1 hz1
        go_wp2_with fail
        refine (HB.out _).mono ?_
        rintro e w2 ⟨rfl, hb2⟩
        have HB2 := Lib.hid (HB1.out.trans (hb2.mono HB1.out.size))
        clear hb2 z0 z1 z2 z3
        go_wp2_with fail
        refine bodyPost_ret (results_tmp3E rfl _ _) rfl ?_
        exact ⟨rfl, HB2.out⟩
      · have HB := Lib.hid (fun W => small_no n hn hb W)
        have hr := HR.out
        subst hr
        clear HR
        go_enter Tryz.func169, Tryz.ntmps169
        go_wp2_with (rw [HW0.out])
        refine (HA.out _).mono ?_
        rintro e w1 ⟨rfl, hb1⟩
        have HB1 := Lib.hid (HLO.out.trans (hb1.mono HLO.out.size))
        have hz1 := HZN.out.after hb1
        clear y0 y1 y2 y3 z0 z1 z2 z3 hq
        obtain ⟨z0, z1, z2, z3⟩ := hz1.zero
        clear hb1 hz1
        go_wp2_with fail
        refine (HB.out _).mono ?_
        rintro e w2 ⟨rfl, hb2⟩
        have HB2 := Lib.hid (HB1.out.trans (hb2.mono HB1.out.size))
        clear hb2 z0 z1 z2 z3
        go_wp2_with fail
        refine bodyPost_ret (results_tmp3E rfl _ _) rfl ?_
        exact ⟨rfl, HB2.out⟩
end Go.Proofs.YtlelgbmbmajfmaaGreatDoor

namespace Go.Proofs.YtlelgbmbmajfmaaGreatDoor
open Go.RowKit Go.Shelf Go.Lib
attribute [local go_sem] Oper.semAt_some
def memF (f : FrE) (m : List UInt8) : FrE := { f with mem := m }
theorem Fra.mem {p : Nat} {w : World} {f : FrE} (h : Fra p w f) (m : List UInt8) : Fra p (w.setCell ⟨p, 18, none⟩ (.string ⟨m.toArray⟩)) (memF f m) := h.set 18 _ rfl rfl rfl
/-- two words in boxes -/
theorem two_boxes (w : World) (a b : Nat) : ∃ W, ((w.alloc (.cells #[.int .u64 (limb a 0), .int .u64 (limb a 1), .int .u64 (limb a 2), .int .u64 (limb a 3)] 24)).alloc (.cells #[.int .u64 (limb b 0), .int .u64 (limb b 1), .int .u64 (limb b 2), .int .u64 (limb b 3)] 24)) = W ∧ W4 W w.heap.size 0 a ∧ W4 W (w.heap.size + 1) 0 b ∧ Below w.heap.size w W ∧ W.heap.size = w.heap.size + 2 := by
  have h := W4.new (w.alloc (.cells #[.int .u64 (limb a 0), .int .u64 (limb a 1), .int .u64 (limb a 2), .int .u64 (limb a 3)] 24)) b 24
  rw [World.size_alloc] at h
  exact ⟨_, rfl, (W4.new w a 24).alloc _, h, laid2 w _ _, by simp only [World.size_alloc]⟩
/-- needF: the memory made as great as it must be, and paid for: what is left -/
def needF (f : FrE) (off n each unit : Nat) : FrE × Bool :=
  match needE f.mem off n with
  | none => (failE f, false)
  | some (m, c) => if c + each * ((n + unit - 1) / unit) ≤ f.gas then (memF (payE f (c + each * ((n + unit - 1) / unit))) m, true) else (failE f, false)
theorem needE_small {m : List UInt8} {off n : Nat} {r : List UInt8 × Nat} (h : needE m off n = some r) : n ≤ 65536 ∧ r.2 ≤ 100000 := by
  unfold needE at h
  by_cases h0 : n = 0
  · rw [if_pos h0] at h; cases h; exact ⟨by omega, by omega⟩
  · rw [if_neg h0] at h
    by_cases h1 : off ≤ 65536 ∧ n ≤ 65536 ∧ off + n ≤ 65536
    · rw [if_pos h1] at h
      refine ⟨h1.2.1, ?_⟩
      split at h
      · cases h; omega
      · cases h
        have := costE_le (n := endM off n) (by unfold endM; omega)
        show costE (endM off n) - costE m.length ≤ 100000
        omega
    · rw [if_neg h1] at h; cases h
set_option maxRecDepth 100000 in
set_option maxHeartbeats 6400000 in
theorem needF_any (p : Nat) (f : FrE) (off n each unit : Nat) (w : World) (h : Fra p w f) (hg : f.gas < 18446744073709551616) (hm : f.mem.length ≤ 131072) (ho : off < 256 ^ 32) (hn : n < 256 ^ 32) (he : each ≤ 1000) (hu : 0 < unit) (hu2 : unit ≤ 1000) :
    Calls Tryz.prog 133 #[.pointer (some ⟨p, 0, none⟩), .agg #[.int .u64 (limb off 0), .int .u64 (limb off 1), .int .u64 (limb off 2), .int .u64 (limb off 3)], .agg #[.int .u64 (limb n 0), .int .u64 (limb n 1), .int .u64 (limb n 2), .int .u64 (limb n 3)], .int .u64 each, .int .u64 unit] w fun e w' => e = .returned (.bool (needF f off n each unit).2) ∧ Upf p w f w' (needF f off n each unit).1 ∧ Fra p w' (needF f off n each unit).1 := by
  have HNE := Lib.hid (fun W => need_any f.mem off n W hm ho hn)
  obtain ⟨W0, hW0, zo, zn, hlo, hsz⟩ := two_boxes w off n
  have HW0 := Lib.hid hW0
  have HLO := Lib.hid hlo
  have HSZ := Lib.hid hsz
  have HF0 := Lib.hid (h.after hlo)
  have HSS := Lib.hid (fun W (hb : Below W0.heap.size W0 W) => (show W.cell? ⟨p, 18, none⟩ = some (.string ⟨f.mem.toArray⟩) ∧ W.cell? ⟨w.heap.size, 0, none⟩ = some (.int .u64 (limb off 0)) ∧ W.cell? ⟨w.heap.size, 1, none⟩ = some (.int .u64 (limb off 1)) ∧ W.cell? ⟨w.heap.size, 2, none⟩ = some (.int .u64 (limb off 2)) ∧ W.cell? ⟨w.heap.size, 3, none⟩ = some (.int .u64 (limb off 3)) ∧ W.cell? ⟨(w.heap.size + 1), 0, none⟩ = some (.int .u64 (limb n 0)) ∧ W.cell? ⟨(w.heap.size + 1), 1, none⟩ = some (.int .u64 (limb n 1)) ∧ W.cell? ⟨(w.heap.size + 1), 2, none⟩ = some (.int .u64 (limb n 2)) ∧ W.cell? ⟨(w.heap.size + 1), 3, none⟩ = some (.int .u64 (limb n 3)) from by
    obtain ⟨a0, a1, a2, a3⟩ := (zo.after hb).zero
    obtain ⟨b0, b1, b2, b3⟩ := (zn.after hb).zero
    exact ⟨((h.after hlo).after hb).at 18 rfl, a0, a1, a2, a3, b0, b1, b2, b3⟩))
  have hlt := h.lt
  have HPB := Lib.hid (show p < W0.heap.size from Nat.lt_of_lt_of_le hlt hlo.size)
  clear hW0 zo zn hlo hsz h
  cases hr : needE f.mem off n with
  | none =>
    have hres : needF f off n each unit = (failE f, false) := by unfold needF; rw [hr]
    rw [hres]
    rw [hr] at HNE
    unfold needV at HNE
    clear hr hres
    go_enter Tryz.func133, Tryz.ntmps133
    go_wp2_with (rw [HW0.out])
    refine wp_region_held_drew (S := (fun W => W.cell? ⟨p, 18, none⟩ = some (.string ⟨f.mem.toArray⟩) ∧ W.cell? ⟨w.heap.size, 0, none⟩ = some (.int .u64 (limb off 0)) ∧ W.cell? ⟨w.heap.size, 1, none⟩ = some (.int .u64 (limb off 1)) ∧ W.cell? ⟨w.heap.size, 2, none⟩ = some (.int .u64 (limb off 2)) ∧ W.cell? ⟨w.heap.size, 3, none⟩ = some (.int .u64 (limb off 3)) ∧ W.cell? ⟨(w.heap.size + 1), 0, none⟩ = some (.int .u64 (limb n 0)) ∧ W.cell? ⟨(w.heap.size + 1), 1, none⟩ = some (.int .u64 (limb n 1)) ∧ W.cell? ⟨(w.heap.size + 1), 2, none⟩ = some (.int .u64 (limb n 2)) ∧ W.cell? ⟨(w.heap.size + 1), 3, none⟩ = some (.int .u64 (limb n 3)))) (by kernel_rfl) (HSS.out _ (Below.refl _ _).drew) (fun hHeld => ?_)
    refine hT 0 ?_
    refine hT 1 ?_
    refine hT 2 ?_
    refine hD 3 ?_
    refine hD 4 ?_
    refine hD 5 ?_
    refine wpAnyH_ready (rs := [6]) (by kernel_rfl) (by simp) ?_
    refine AllReadyH.cons rfl (fun K hK => ?_) AllReadyH.nil
    go_simp
    go_at_call 169
    refine (HNE.out _).mono ?_
    rintro e w1 ⟨rfl, hb1⟩
    have HB1 := Lib.hid ((Below.refl W0.heap.size W0).drew.trans hb1)
    clear hb1
    refine hK.out _ _ (HSS.out _ HB1.out) (fun hHeld => ?_)
    clear hK K
    try simp only [Act.put, zq]
    refine hT 7 ?_
    refine hT 8 ?_
    refine hT 9 ?_
    refine hT 10 ?_
    refine hT 11 ?_
    refine hT 12 ?_
    refine hT 13 ?_
    refine wpAnyH_done (by kernel_rfl) ?_ 0
    go_wp2_with fail
    refine (fail_any p f _ (HF0.out.after HB1.out)).mono ?_
    rintro e w2 ⟨rfl, hb2, hf2⟩
    have HB2 := Lib.hid (((Upf.refl p w f).next (Nat.le_of_lt hlt) (HLO.out.trans (HB1.out.mono HLO.out.size))).trans hb2)
    have HF2 := Lib.hid hf2
    clear hb2 hf2
    go_wp2_with fail
    go_ret
    exact ⟨rfl, HB2.out, HF2.out⟩
  | some rc =>
    obtain ⟨m, c⟩ := rc
    obtain ⟨hn2, hc2⟩ := needE_small hr
    dsimp only at hc2
    have hlow : limb n 0 = n := limb_low (by omega)
    have hres : needF f off n each unit = if c + each * ((n + unit - 1) / unit) ≤ f.gas then (memF (payE f (c + each * ((n + unit - 1) / unit))) m, true) else (failE f, false) := by unfold needF; rw [hr]
    rw [hres]
    rw [hr] at HNE
    unfold needV at HNE
    obtain ⟨q, hq⟩ : ∃ q, (n + unit - 1) / unit = q := ⟨_, rfl⟩
    have hqn : q ≤ n + unit - 1 := by rw [← hq]; exact Nat.div_le_self _ _
    rw [hq]
    have heq : each * q ≤ 1000 * 66536 := Nat.mul_le_mul he (by omega)
    obtain ⟨t, ht⟩ : ∃ t, each * q = t := ⟨_, rfl⟩
    rw [ht] at heq ⊢
    have k1 : IntKind.u64.wrap ((n : Int) + unit) = (n : Int) + unit := by rw [IntKind.wrap_u64]; omega
    have k2 : IntKind.u64.wrap ((n : Int) + unit - 1) = ((n + unit - 1 : Nat) : Int) := by rw [IntKind.wrap_u64]; omega
    have k2' : (n : Int) + unit - 1 = ((n + unit - 1 : Nat) : Int) := by omega
    have k3 : (((n + unit - 1 : Nat) : Int)).tdiv (unit : Int) = (q : Int) := by rw [Int.tdiv_eq_ediv_of_nonneg (by omega), ← hq]; rfl
    have k3' : IntKind.u64.wrap (q : Int) = (q : Int) := by rw [IntKind.wrap_u64]; omega
    have k4' : (each : Int) * q = (t : Int) := by rw [← ht]; simp
    have k4 : IntKind.u64.wrap (t : Int) = (t : Int) := by rw [IntKind.wrap_u64]; omega
    obtain ⟨u, hu9⟩ : ∃ u, c + t = u := ⟨_, rfl⟩
    rw [hu9]
    have k5' : (c : Int) + t = (u : Int) := by omega
    have k5 : IntKind.u64.wrap (u : Int) = (u : Int) := by rw [IntKind.wrap_u64]; omega
    have k6 : ¬ ((unit : Int) = 0) := by omega
    have k6' : ¬ (unit = 0) := by omega
    have HLOW := Lib.hid hlow
    clear hr hres hlow hq ht hu9 hqn
    by_cases hpay : u ≤ f.gas
    · rw [if_pos hpay]
      have HPAY := Lib.hid (fun W (hF : Fra p W f) => pay_some p f u W hF hg hpay)
      go_enter Tryz.func133, Tryz.ntmps133
      go_wp2_with (rw [HW0.out])
      refine wp_region_held_drew (S := (fun W => W.cell? ⟨p, 18, none⟩ = some (.string ⟨f.mem.toArray⟩) ∧ W.cell? ⟨w.heap.size, 0, none⟩ = some (.int .u64 (limb off 0)) ∧ W.cell? ⟨w.heap.size, 1, none⟩ = some (.int .u64 (limb off 1)) ∧ W.cell? ⟨w.heap.size, 2, none⟩ = some (.int .u64 (limb off 2)) ∧ W.cell? ⟨w.heap.size, 3, none⟩ = some (.int .u64 (limb off 3)) ∧ W.cell? ⟨(w.heap.size + 1), 0, none⟩ = some (.int .u64 (limb n 0)) ∧ W.cell? ⟨(w.heap.size + 1), 1, none⟩ = some (.int .u64 (limb n 1)) ∧ W.cell? ⟨(w.heap.size + 1), 2, none⟩ = some (.int .u64 (limb n 2)) ∧ W.cell? ⟨(w.heap.size + 1), 3, none⟩ = some (.int .u64 (limb n 3)))) (by kernel_rfl) (HSS.out _ (Below.refl _ _).drew) (fun hHeld => ?_)
      refine hT 0 ?_
      refine hT 1 ?_
      refine hT 2 ?_
      refine hD 3 ?_
      refine hD 4 ?_
      refine hD 5 ?_
      refine wpAnyH_ready (rs := [6]) (by kernel_rfl) (by simp) ?_
      refine AllReadyH.cons rfl (fun K hK => ?_) AllReadyH.nil
      go_simp
      go_at_call 169
      refine (HNE.out _).mono ?_
      rintro e w1 ⟨rfl, hb1⟩
      have HB1 := Lib.hid ((Below.refl W0.heap.size W0).drew.trans hb1)
      clear hb1
      refine hK.out _ _ (HSS.out _ HB1.out) (fun hHeld => ?_)
      clear hK K
      try simp only [Act.put, zq]
      refine hT 7 ?_
      refine hT 8 ?_
      refine hT 9 ?_
      refine hT 10 ?_
      refine hT 11 ?_
      refine hT 12 ?_
      refine hT 13 ?_
      refine wpAnyH_done (by kernel_rfl) ?_ 0
      obtain ⟨-, -, -, -, -, zn0, -, -, -⟩ := HSS.out _ HB1.out
      rw [HLOW.out] at zn0
      clear hHeld
      go_wp2_with fail
      refine (HPAY.out _ (HF0.out.after HB1.out)).mono ?_
      rintro e w2 ⟨rfl, hb2, hf2⟩
      have HB2 := Lib.hid (((Upf.refl p w f).next (Nat.le_of_lt hlt) (HLO.out.trans (HB1.out.mono HLO.out.size))).trans hb2)
      have HF2 := Lib.hid hf2
      have y1 := hf2.at 18 rfl
      have y2 := hf2.ice 18
      clear hb2 hf2
      go_wp2_with fail
      go_ret
      exact ⟨rfl, HB2.out.set 18 _ rfl, HF2.out.mem m⟩
    · rw [if_neg hpay]
      have HPAY := Lib.hid (fun W (hF : Fra p W f) => pay_none p f u W hF (by omega))
      go_enter Tryz.func133, Tryz.ntmps133
      go_wp2_with (rw [HW0.out])
      refine wp_region_held_drew (S := (fun W => W.cell? ⟨p, 18, none⟩ = some (.string ⟨f.mem.toArray⟩) ∧ W.cell? ⟨w.heap.size, 0, none⟩ = some (.int .u64 (limb off 0)) ∧ W.cell? ⟨w.heap.size, 1, none⟩ = some (.int .u64 (limb off 1)) ∧ W.cell? ⟨w.heap.size, 2, none⟩ = some (.int .u64 (limb off 2)) ∧ W.cell? ⟨w.heap.size, 3, none⟩ = some (.int .u64 (limb off 3)) ∧ W.cell? ⟨(w.heap.size + 1), 0, none⟩ = some (.int .u64 (limb n 0)) ∧ W.cell? ⟨(w.heap.size + 1), 1, none⟩ = some (.int .u64 (limb n 1)) ∧ W.cell? ⟨(w.heap.size + 1), 2, none⟩ = some (.int .u64 (limb n 2)) ∧ W.cell? ⟨(w.heap.size + 1), 3, none⟩ = some (.int .u64 (limb n 3)))) (by kernel_rfl) (HSS.out _ (Below.refl _ _).drew) (fun hHeld => ?_)
      refine hT 0 ?_
      refine hT 1 ?_
      refine hT 2 ?_
      refine hD 3 ?_
      refine hD 4 ?_
      refine hD 5 ?_
      refine wpAnyH_ready (rs := [6]) (by kernel_rfl) (by simp) ?_
      refine AllReadyH.cons rfl (fun K hK => ?_) AllReadyH.nil
      go_simp
      go_at_call 169
      refine (HNE.out _).mono ?_
      rintro e w1 ⟨rfl, hb1⟩
      have HB1 := Lib.hid ((Below.refl W0.heap.size W0).drew.trans hb1)
      clear hb1
      refine hK.out _ _ (HSS.out _ HB1.out) (fun hHeld => ?_)
      clear hK K
      try simp only [Act.put, zq]
      refine hT 7 ?_
      refine hT 8 ?_
      refine hT 9 ?_
      refine hT 10 ?_
      refine hT 11 ?_
      refine hT 12 ?_
      refine hT 13 ?_
      refine wpAnyH_done (by kernel_rfl) ?_ 0
      obtain ⟨-, -, -, -, -, zn0, -, -, -⟩ := HSS.out _ HB1.out
      rw [HLOW.out] at zn0
      clear hHeld
      go_wp2_with fail
      refine (HPAY.out _ (HF0.out.after HB1.out)).mono ?_
      rintro e w2 ⟨rfl, hb2, hf2⟩
      have HB2 := Lib.hid (((Upf.refl p w f).next (Nat.le_of_lt hlt) (HLO.out.trans (HB1.out.mono HLO.out.size))).trans hb2)
      have HF2 := Lib.hid hf2
      clear hb2 hf2
      go_wp2_with fail
      go_ret
      exact ⟨rfl, HB2.out, HF2.out⟩
end Go.Proofs.YtlelgbmbmajfmaaGreatDoor

namespace Go.Proofs.YtlelgbmbmajfmaaGreatDoor
open Go.RowKit Go.Shelf Go.Lib
attribute [local go_sem] Oper.semAt_some
theorem topT_lt {f : FrE} (hw : ∀ v ∈ f.stkL, v < 256 ^ 32) (k : Nat) : topT f k < 256 ^ 32 := by
  unfold topT
  rw [List.getD_eq_getElem?_getD]
  cases h : f.stkL[f.stkL.length - 1 - k]? with
  | none => exact by decide
  | some v => exact hw v (List.mem_of_getElem? h)
def cutE (f : FrE) (off n : Nat) : List UInt8 := if limb off 0 + limb n 0 ≤ f.mem.length then (f.mem.drop (limb off 0)).take (limb n 0) else []
/-- the array of what was taken, stored into a block that was just laid -/
theorem taken_store {p : Nat} {w : World} {f : FrE} (hF : Fra p w f) (cs : List Value) (hl : cs.length = 28) :
    ∃ W, (w.alloc (.cells #[.int .u64 0, .int .u64 0, .int .u64 0, .int .u64 0, .int .u64 0, .int .u64 0, .int .u64 0, .int .u64 0, .int .u64 0, .int .u64 0, .int .u64 0, .int .u64 0, .int .u64 0, .int .u64 0, .int .u64 0, .int .u64 0, .int .u64 0, .int .u64 0, .int .u64 0, .int .u64 0, .int .u64 0, .int .u64 0, .int .u64 0, .int .u64 0, .int .u64 0, .int .u64 0, .int .u64 0, .int .u64 0] 199)).setCells w.heap.size 0 cs = W ∧ HasCells W w.heap.size cs 199 ∧ Fra p W f ∧ Upf p w f W f ∧ (w.heap.size < W.heap.size ∧ p < w.heap.size ∧ ∀ k, f.stk.ownBlock = some k → k < w.heap.size) := by
  have h1 := laid1 w (.cells #[.int .u64 0, .int .u64 0, .int .u64 0, .int .u64 0, .int .u64 0, .int .u64 0, .int .u64 0, .int .u64 0, .int .u64 0, .int .u64 0, .int .u64 0, .int .u64 0, .int .u64 0, .int .u64 0, .int .u64 0, .int .u64 0, .int .u64 0, .int .u64 0, .int .u64 0, .int .u64 0, .int .u64 0, .int .u64 0, .int .u64 0, .int .u64 0, .int .u64 0, .int .u64 0, .int .u64 0, .int .u64 0] 199)
  have h2 : Below w.heap.size w ((w.alloc (.cells #[.int .u64 0, .int .u64 0, .int .u64 0, .int .u64 0, .int .u64 0, .int .u64 0, .int .u64 0, .int .u64 0, .int .u64 0, .int .u64 0, .int .u64 0, .int .u64 0, .int .u64 0, .int .u64 0, .int .u64 0, .int .u64 0, .int .u64 0, .int .u64 0, .int .u64 0, .int .u64 0, .int .u64 0, .int .u64 0, .int .u64 0, .int .u64 0, .int .u64 0, .int .u64 0, .int .u64 0, .int .u64 0] 199)).setCells w.heap.size 0 cs) := below_sets (Nat.le_refl _) _ _ _ h1
  have h3 := (HasCells.new w [.int .u64 0, .int .u64 0, .int .u64 0, .int .u64 0, .int .u64 0, .int .u64 0, .int .u64 0, .int .u64 0, .int .u64 0, .int .u64 0, .int .u64 0, .int .u64 0, .int .u64 0, .int .u64 0, .int .u64 0, .int .u64 0, .int .u64 0, .int .u64 0, .int .u64 0, .int .u64 0, .int .u64 0, .int .u64 0, .int .u64 0, .int .u64 0, .int .u64 0, .int .u64 0, .int .u64 0, .int .u64 0] 199).whole (vs := cs) (by rw [hl]; rfl)
  exact ⟨_, rfl, h3, hF.after h2, (Upf.refl p w f).next (Nat.le_of_lt hF.lt) h2, h3.lt, hF.lt, fun k e => (hF.2.lt k e).2⟩
theorem sev_word {W : World} {q : Nat} {f : FrE} {k : Nat} (h : HasCells W q (sevC f k) 199) {i : Nat} (hi : i < k) (hk : k ≤ 7) : W4 W q (i * 4) (topT f i) := fun j u hj => by
  have hj4 : j < 4 := (List.getElem?_eq_some_iff.1 hj).1
  have h1 : (sevW f k)[i]? = some (topT f i) := by
    unfold sevW
    rw [List.getElem?_map, List.getElem?_range (by omega)]
    simp [hi]
  rw [h.cell (wordCells_at (sevW f k) i j _ h1 hj4), ← hj]
  match j, hj4 with
  | 0, _ => rfl
  | 1, _ => rfl
  | 2, _ => rfl
  | 3, _ => rfl
theorem sev_0 {W : World} {q : Nat} {f : FrE} {k : Nat} (h : HasCells W q (sevC f k) 199) (hi : 0 < k) (hk : k ≤ 7) : W.cell? ⟨q, 0, none⟩ = some (.int .u64 (limb (topT f 0) 0)) ∧ W.cell? ⟨q, 1, none⟩ = some (.int .u64 (limb (topT f 0) 1)) ∧ W.cell? ⟨q, 2, none⟩ = some (.int .u64 (limb (topT f 0) 2)) ∧ W.cell? ⟨q, 3, none⟩ = some (.int .u64 (limb (topT f 0) 3)) := by
  have h1 := sev_word h hi hk
  rw [Nat.zero_mul] at h1
  exact h1.zero
theorem sev_1 {W : World} {q : Nat} {f : FrE} {k : Nat} (h : HasCells W q (sevC f k) 199) (hi : 1 < k) (hk : k ≤ 7) : W.cell? ⟨q, 4, none⟩ = some (.int .u64 (limb (topT f 1) 0)) ∧ W.cell? ⟨q, 5, none⟩ = some (.int .u64 (limb (topT f 1) 1)) ∧ W.cell? ⟨q, 6, none⟩ = some (.int .u64 (limb (topT f 1) 2)) ∧ W.cell? ⟨q, 7, none⟩ = some (.int .u64 (limb (topT f 1) 3)) := by
  have h1 := sev_word h hi hk
  exact ⟨h1 0 _ rfl, h1 1 _ rfl, h1 2 _ rfl, h1 3 _ rfl⟩
set_option maxRecDepth 100000 in
set_option maxHeartbeats 6400000 in
theorem cut_any (p : Nat) (f : FrE) (off n : Nat) (w : World) (h : Fra p w f) (hm : f.mem.length ≤ 131072) :
    Calls Tryz.prog 135 #[.pointer (some ⟨p, 0, none⟩), .agg #[.int .u64 (limb off 0), .int .u64 (limb off 1), .int .u64 (limb off 2), .int .u64 (limb off 3)], .agg #[.int .u64 (limb n 0), .int .u64 (limb n 1), .int .u64 (limb n 2), .int .u64 (limb n 3)]] w fun e w' => e = .returned (.string ⟨(cutE f off n).toArray⟩) ∧ Upf p w f w' f ∧ Fra p w' f := by
  have HSL := Lib.hid (fun W => slice_any f.mem (limb off 0) (limb n 0) W (by omega))
  obtain ⟨W0, hW0, zo, zn, hlo, hsz⟩ := two_boxes w off n
  have HW0 := Lib.hid hW0
  have HLO := Lib.hid hlo
  have HF0 := Lib.hid (h.after hlo)
  have HSS := Lib.hid (fun W (hb : Below W0.heap.size W0 W) => (show W.cell? ⟨p, 18, none⟩ = some (.string ⟨f.mem.toArray⟩) ∧ W.cell? ⟨w.heap.size, 0, none⟩ = some (.int .u64 (limb off 0)) ∧ W.cell? ⟨w.heap.size, 1, none⟩ = some (.int .u64 (limb off 1)) ∧ W.cell? ⟨w.heap.size, 2, none⟩ = some (.int .u64 (limb off 2)) ∧ W.cell? ⟨w.heap.size, 3, none⟩ = some (.int .u64 (limb off 3)) ∧ W.cell? ⟨(w.heap.size + 1), 0, none⟩ = some (.int .u64 (limb n 0)) ∧ W.cell? ⟨(w.heap.size + 1), 1, none⟩ = some (.int .u64 (limb n 1)) ∧ W.cell? ⟨(w.heap.size + 1), 2, none⟩ = some (.int .u64 (limb n 2)) ∧ W.cell? ⟨(w.heap.size + 1), 3, none⟩ = some (.int .u64 (limb n 3)) from by
    obtain ⟨a0, a1, a2, a3⟩ := (zo.after hb).zero
    obtain ⟨b0, b1, b2, b3⟩ := (zn.after hb).zero
    exact ⟨((h.after hlo).after hb).at 18 rfl, a0, a1, a2, a3, b0, b1, b2, b3⟩))
  have hlt := h.lt
  clear hW0 zo zn hlo hsz h
  unfold cutE
  by_cases hc : limb off 0 + limb n 0 ≤ f.mem.length
  · rw [if_pos hc] at HSL ⊢
    go_enter Tryz.func135, Tryz.ntmps135
    go_wp2_with (rw [HW0.out])
    refine wp_region_held_drew (S := (fun W => W.cell? ⟨p, 18, none⟩ = some (.string ⟨f.mem.toArray⟩) ∧ W.cell? ⟨w.heap.size, 0, none⟩ = some (.int .u64 (limb off 0)) ∧ W.cell? ⟨w.heap.size, 1, none⟩ = some (.int .u64 (limb off 1)) ∧ W.cell? ⟨w.heap.size, 2, none⟩ = some (.int .u64 (limb off 2)) ∧ W.cell? ⟨w.heap.size, 3, none⟩ = some (.int .u64 (limb off 3)) ∧ W.cell? ⟨(w.heap.size + 1), 0, none⟩ = some (.int .u64 (limb n 0)) ∧ W.cell? ⟨(w.heap.size + 1), 1, none⟩ = some (.int .u64 (limb n 1)) ∧ W.cell? ⟨(w.heap.size + 1), 2, none⟩ = some (.int .u64 (limb n 2)) ∧ W.cell? ⟨(w.heap.size + 1), 3, none⟩ = some (.int .u64 (limb n 3)))) (by kernel_rfl) (HSS.out _ (Below.refl _ _).drew) (fun hHeld => ?_)
    refine hT 0 ?_
    refine hT 1 ?_
    refine hT 2 ?_
    refine hD 3 ?_
    refine hT 4 ?_
    refine hD 5 ?_
    refine hT 6 ?_
    refine hD 7 ?_
    refine wpAnyH_ready (rs := [8]) (by kernel_rfl) (by simp) ?_
    refine AllReadyH.cons rfl (fun K hK => ?_) AllReadyH.nil
    go_simp
    go_at_call 170
    refine (HSL.out _).mono ?_
    rintro e w1 ⟨rfl, rfl⟩
    refine hK.out _ _ (HSS.out _ (Below.refl _ _).drew) (fun hHeld => ?_)
    clear hK K
    try simp only [Act.put, zq]
    refine hT 9 ?_
    refine hT 10 ?_
    refine hT 11 ?_
    refine hT 12 ?_
    refine hT 13 ?_
    refine wpAnyH_done (by kernel_rfl) ?_ 0
    go_wp2_with fail
    go_ret
    exact ⟨rfl, (Upf.refl p w f).next (Nat.le_of_lt hlt) HLO.out.drew, HF0.out.after (Below.refl _ _).drew⟩
  · rw [if_neg hc] at HSL ⊢
    go_enter Tryz.func135, Tryz.ntmps135
    go_wp2_with (rw [HW0.out])
    refine wp_region_held_drew (S := (fun W => W.cell? ⟨p, 18, none⟩ = some (.string ⟨f.mem.toArray⟩) ∧ W.cell? ⟨w.heap.size, 0, none⟩ = some (.int .u64 (limb off 0)) ∧ W.cell? ⟨w.heap.size, 1, none⟩ = some (.int .u64 (limb off 1)) ∧ W.cell? ⟨w.heap.size, 2, none⟩ = some (.int .u64 (limb off 2)) ∧ W.cell? ⟨w.heap.size, 3, none⟩ = some (.int .u64 (limb off 3)) ∧ W.cell? ⟨(w.heap.size + 1), 0, none⟩ = some (.int .u64 (limb n 0)) ∧ W.cell? ⟨(w.heap.size + 1), 1, none⟩ = some (.int .u64 (limb n 1)) ∧ W.cell? ⟨(w.heap.size + 1), 2, none⟩ = some (.int .u64 (limb n 2)) ∧ W.cell? ⟨(w.heap.size + 1), 3, none⟩ = some (.int .u64 (limb n 3)))) (by kernel_rfl) (HSS.out _ (Below.refl _ _).drew) (fun hHeld => ?_)
    refine hT 0 ?_
    refine hT 1 ?_
    refine hT 2 ?_
    refine hD 3 ?_
    refine hT 4 ?_
    refine hD 5 ?_
    refine hT 6 ?_
    refine hD 7 ?_
    refine wpAnyH_ready (rs := [8]) (by kernel_rfl) (by simp) ?_
    refine AllReadyH.cons rfl (fun K hK => ?_) AllReadyH.nil
    go_simp
    go_at_call 170
    refine (HSL.out _).mono ?_
    rintro e w1 ⟨rfl, rfl⟩
    refine hK.out _ _ (HSS.out _ (Below.refl _ _).drew) (fun hHeld => ?_)
    clear hK K
    try simp only [Act.put, zq]
    refine hT 9 ?_
    refine hT 10 ?_
    refine hT 11 ?_
    refine hT 12 ?_
    refine hT 13 ?_
    refine wpAnyH_done (by kernel_rfl) ?_ 0
    go_wp2_with fail
    go_ret
    exact ⟨rfl, (Upf.refl p w f).next (Nat.le_of_lt hlt) HLO.out.drew, HF0.out.after (Below.refl _ _).drew⟩
/-- what give leaves -/
def giveF (f : FrE) (how : Nat) : FrE :=
  if (needF (popF f 2) (topT f 0) (topT f 1) 0 1).2 then endE (needF (popF f 2) (topT f 0) (topT f 1) 0 1).1 how (cutE (needF (popF f 2) (topT f 0) (topT f 1) 0 1).1 (topT f 0) (topT f 1)) else (needF (popF f 2) (topT f 0) (topT f 1) 0 1).1
theorem needF_mem {f : FrE} {off n each unit : Nat} (hm : f.mem.length ≤ 131072) : (needF f off n each unit).1.mem.length ≤ 131072 := by
  unfold needF
  cases hr : needE f.mem off n with
  | none => exact hm
  | some rc =>
    obtain ⟨m, c⟩ := rc
    dsimp only
    split
    · show m.length ≤ 131072
      unfold needE at hr
      split at hr
      · cases hr; exact hm
      · split at hr
        · rename_i h0 h1
          split at hr
          · cases hr; exact hm
          · cases hr
            have he : endM off n ≤ 131072 := by unfold endM; omega
            rw [List.length_append, List.length_replicate]
            omega
        · cases hr
    · exact hm
set_option maxRecDepth 100000 in
set_option maxHeartbeats 6400000 in
theorem give_any (p : Nat) (f : FrE) (how : Nat) (w : World) (h : Fra p w f) (hml : 2 ≤ f.stkL.length) (h63 : f.stkL.length ≤ 1099511627776) (hg : f.gas < 18446744073709551616) (hm : f.mem.length ≤ 131072) (hw : ∀ v ∈ f.stkL, v < 256 ^ 32) :
    Calls Tryz.prog 146 #[.pointer (some ⟨p, 0, none⟩), .int .i64 how] w fun e w' => (∃ v, e = .returned v) ∧ Upf p w f w' (giveF f how) ∧ Fra p w' (giveF f how) := by
  have HF := Lib.hid h
  have ht0 : topT f 0 < 256 ^ 32 := topT_lt hw 0
  have ht1 : topT f 1 < 256 ^ 32 := topT_lt hw 1
  have HND := Lib.hid (fun W (hF : Fra p W (popF f 2)) => needF_any p (popF f 2) (topT f 0) (topT f 1) 0 1 W hF hg hm ht0 ht1 (by decide) (by decide) (by decide))
  have hmm := needF_mem (off := topT f 0) (n := topT f 1) (each := 0) (unit := 1) (f := popF f 2) hm
  unfold giveF
  obtain ⟨⟨N, b⟩, hN⟩ : ∃ N, needF (popF f 2) (topT f 0) (topT f 1) 0 1 = N := ⟨_, rfl⟩
  rw [hN] at HND hmm ⊢
  dsimp only at HND hmm ⊢
  clear h hN hm ht0 ht1 hw
  have HC := Lib.hid (fun W (hF : Fra p W N) => cut_any p N (topT f 0) (topT f 1) W hF hmm)
  clear hmm
  go_enter Tryz.func146, Tryz.ntmps146
  go_wp2_with fail
  refine (take_any p f 2 _ HF.out (by decide) hml h63).mono ?_
  rintro e w1 ⟨rfl, hb1, hf1⟩
  have HB1 := Lib.hid (hb1)
  have HF1 := Lib.hid hf1
  have HZ1 := Lib.hid (HasCells.new w1 [.int .u64 0, .int .u64 0, .int .u64 0, .int .u64 0, .int .u64 0, .int .u64 0, .int .u64 0, .int .u64 0, .int .u64 0, .int .u64 0, .int .u64 0, .int .u64 0, .int .u64 0, .int .u64 0, .int .u64 0, .int .u64 0, .int .u64 0, .int .u64 0, .int .u64 0, .int .u64 0, .int .u64 0, .int .u64 0, .int .u64 0, .int .u64 0, .int .u64 0, .int .u64 0, .int .u64 0, .int .u64 0] 199)
  clear hb1 hf1
  go_wp2_with ((with_reducible refine store_gateK 199 ?_); refine wpList_store_mid rfl 199 _ _ rfl w1.heap.size 0 (sevC f 2).toArray rfl rfl (HZ1.out.there 0 _ (by simp [sevC_length])) (by rw [List.size_toArray, sevC_length]; exact infoSeven) (sevC_one f 2) ?_; (obtain ⟨w2, hw2, hz2, hf2, hb2, hq2⟩ := taken_store HF1.out (sevC f 2) (by rw [sevC_length])); rw [hw2]; have HT2 := Lib.hid hz2; have HF2 := Lib.hid hf2; have HB2 := Lib.hid (HB1.out.trans hb2); have HQ2 := Lib.hid hq2; clear hw2 hz2 hf2 hb2 hq2; obtain ⟨a0, a1, a2, a3⟩ := sev_0 HT2.out (by decide) (by decide); obtain ⟨b0, b1, b2, b3⟩ := sev_1 HT2.out (by decide) (by decide))
  refine (HND.out _ HF2.out).mono ?_
  rintro e w3 ⟨rfl, hb3, hf3⟩
  have HB3 := Lib.hid (HB2.out.trans hb3)
  have HF3 := Lib.hid hf3
  have HT3 := Lib.hid (HT2.out.kept (hb3.block _ HQ2.out.1 (by have := HQ2.out.2.1; omega) (fun e => by have := HQ2.out.2.2 _ e; omega)))
  clear a0 a1 a2 a3 b0 b1 b2 b3 hb3 hf3
  cases b with
  | false =>
    go_wp2
    go_end0
    exact ⟨⟨_, rfl⟩, HB3.out, HF3.out⟩
  | true =>
    obtain ⟨a0, a1, a2, a3⟩ := sev_0 HT3.out (by decide) (by decide)
    obtain ⟨b0, b1, b2, b3⟩ := sev_1 HT3.out (by decide) (by decide)
    go_wp2_with fail
    refine (HC.out _ HF3.out).mono ?_
    rintro e w4 ⟨rfl, hb4, hf4⟩
    have HB4 := Lib.hid (HB3.out.trans hb4)
    have HF4 := Lib.hid hf4
    clear a0 a1 a2 a3 b0 b1 b2 b3 hb4 hf4
    go_wp2_with fail
    refine (end_any p N how _ _ HF4.out).mono ?_
    rintro e w5 ⟨rfl, hb5, hf5⟩
    have HB5 := Lib.hid (HB4.out.trans hb5)
    have HF5 := Lib.hid hf5
    clear hb5 hf5
    go_wp2
    go_end0
    exact ⟨⟨_, rfl⟩, HB5.out, HF5.out⟩
end Go.Proofs.YtlelgbmbmajfmaaGreatDoor

namespace Go.Proofs.YtlelgbmbmajfmaaGreatDoor
open Go.RowKit Go.Shelf Go.Lib
attribute [local go_sem] Oper.semAt_some
theorem smallE_any (n : Nat) (w : World) (hn : n < 9223372036854775808) : Calls Tryz.prog 126 #[.int .i64 n] w fun e w' => e = .returned (.agg #[.int .u64 n, .int .u64 0, .int .u64 0, .int .u64 0]) ∧ Below w.heap.size w w' := by
  have k1 : IntKind.u64.wrap (n : Int) = (n : Int) := by rw [IntKind.wrap_u64]; omega
  have HLO := Lib.hid (laid1 w (.cells #[.int .u64 0, .int .u64 0, .int .u64 0, .int .u64 0] 24))
  have HN := Lib.hid (HasCells.new w [.int .u64 0, .int .u64 0, .int .u64 0, .int .u64 0] 24)
  go_enter Tryz.func126, Tryz.ntmps126
  go_wp2_with fail
  refine (of_any n _).mono ?_
  rintro e w1 ⟨rfl, hb1⟩
  have HB1 := Lib.hid (HLO.out.trans (hb1.mono HLO.out.size))
  have HN1 := Lib.hid (HN.out.after hb1)
  clear hb1
  go_wp2_with ((with_reducible refine store_gateK 24 ?_); refine wpList_store_mid rfl 24 _ _ rfl w.heap.size 0 #[.int .u64 n, .int .u64 0, .int .u64 0, .int .u64 0] rfl rfl (HN1.out.there 0 4 (by decide)) infoW (by simp [Value.oneCell']) ?_)
  refine bodyPost_ret (results_cells rfl _ _ w.heap.size [.int .u64 n, .int .u64 0, .int .u64 0, .int .u64 0] _ (by rfl) ((HN1.out.whole (vs := [.int .u64 n, .int .u64 0, .int .u64 0, .int .u64 0]) rfl).range) Tryz.underlying24 rfl infoW) rfl ?_
  exact ⟨rfl, below_sets (Nat.le_refl _) _ _ _ HB1.out⟩
/-- the places that may be jumped to, in memory -/
def IntsAt (w : World) (v : Value) (js : List Nat) (B : Nat) : Prop := js = [] ∧ (∃ a c, v = .slice a 0 c) ∨ ∃ b c, v = .slice (some ⟨b, 0, none⟩) js.length c ∧ b < B ∧ js.length ≤ c ∧ ∀ j, j < js.length → w.cell? ⟨b, j, none⟩ = some (.int .i64 (js.getD j 0 : Nat))
theorem IntsAt.below {w w' : World} {v : Value} {js : List Nat} {B : Nat} (h : IntsAt w v js B) (hb : Below B w w') : IntsAt w' v js B := by
  rcases h with h | ⟨b, c, hv, hlt, hc, hj⟩
  · exact .inl h
  · exact .inr ⟨b, c, hv, hlt, hc, fun j hjl => (World.cell?_of_block (a := ⟨b, j, none⟩) (hb.block b hlt)).trans (hj j hjl)⟩
def nextF (f : FrE) (v : Nat) : FrE := { f with next := v }
theorem sorted_count {js : List Nat} (hs : js.Pairwise (· < ·)) {i v : Nat} (hi : js[i]? = some v) : (js.map (fun n : Nat => (n : Int))).countP (fun x => decide (x < (v : Int))) = i := by
  induction js generalizing i with
  | nil => cases hi
  | cons a r ih =>
    rw [List.pairwise_cons] at hs
    cases i with
    | zero =>
      have e : a = v := by simpa using hi
      subst e
      rw [List.map_cons, List.countP_cons, if_neg (by simp), Nat.add_zero]
      rw [List.countP_eq_zero]
      intro x hx
      obtain ⟨n, hn, rfl⟩ := List.mem_map.1 hx
      have := hs.1 n hn
      simp
      omega
    | succ i =>
      have hi' : r[i]? = some v := hi
      have hav := hs.1 v (List.mem_of_getElem? hi')
      rw [List.map_cons, List.countP_cons, ih hs.2 hi', if_pos (by simp; omega)]
set_option maxRecDepth 100000 in
set_option maxHeartbeats 6400000 in
theorem jump_found (p : Nat) (f : FrE) (v i : Nat) (js : List Nat) (w : World) (h : Fra p w f) (hto : IntsAt w f.tos js p) (hs : js.Pairwise (· < ·)) (hi : js[i]? = some v) (hv : v ≤ 1099511627776) (hjl : js.length ≤ 1099511627776) :
    Calls Tryz.prog 144 #[.pointer (some ⟨p, 0, none⟩), .agg #[.int .u64 (limb v 0), .int .u64 (limb v 1), .int .u64 (limb v 2), .int .u64 (limb v 3)]] w fun e w' => (∃ u, e = .returned u) ∧ Upf p w f w' (nextF f v) ∧ Fra p w' (nextF f v) := by
  have hil := (List.getElem?_eq_some_iff.1 hi).1
  rcases hto with ⟨rfl, _⟩ | ⟨b, c, hbv, hbp, hcap, hcell⟩
  · cases hi
  have hlow : limb v 0 = v := limb_low (by omega)
  have hlt := h.lt
  have hq := eq_low v
  have hz : hiZ v = true := (hiZ_iff (by rw [p32]; omega)).2 (by omega)
  rw [hz, hlow] at hq
  have zo := W4.new w v 24
  have hlo := laid1 w (.cells #[.int .u64 (limb v 0), .int .u64 (limb v 1), .int .u64 (limb v 2), .int .u64 (limb v 3)] 24)
  rw [hlow] at zo hlo ⊢
  obtain ⟨W0, hW0⟩ : ∃ W, w.alloc (.cells #[.int .u64 v, .int .u64 (limb v 1), .int .u64 (limb v 2), .int .u64 (limb v 3)] 24) = W := ⟨_, rfl⟩
  rw [hW0] at zo hlo
  have HW0 := Lib.hid hW0
  have HLO := Lib.hid hlo
  have HF0 := Lib.hid (h.after hlo)
  obtain ⟨n, hn⟩ : ∃ n, js.length = n := ⟨_, rfl⟩
  rw [hn] at hbv hcap hcell hjl hil
  have hgd : js.getD i 0 = v := by rw [List.getD_eq_getElem?_getD, hi]; rfl
  have hcb : ∀ W, Below W0.heap.size W0 W → ∀ j, j < n → W.cell? ⟨b, j, none⟩ = some (.int .i64 (js.getD j 0 : Nat)) := fun W hb j hj => (World.cell?_of_block (a := ⟨b, j, none⟩) ((hb.block b (by have := hlo.size; show b < _; omega)).trans (hlo.block b (by omega)))).trans (hcell j hj)
  have HS1 := Lib.hid (fun W (hb : Below W0.heap.size W0 W) => (show W.cell? ⟨p, 16, none⟩ = some (.slice (some ⟨b, 0, none⟩) n c) ∧ W.cell? ⟨w.heap.size, 0, none⟩ = some (.int .u64 v) from ⟨by rw [← hbv]; exact ((h.after hlo).after hb).at 16 rfl, by rw [← hlow]; exact (zo.after hb).zero.1⟩))
  have HS2 := Lib.hid (fun W (hb : Below W0.heap.size W0 W) => (show W.cell? ⟨p, 16, none⟩ = some (.slice (some ⟨b, 0, none⟩) n c) ∧ W.cell? ⟨b, i, none⟩ = some (.int .i64 v) ∧ W.cell? ⟨w.heap.size, 0, none⟩ = some (.int .u64 v) ∧ W.cell? ⟨w.heap.size, 1, none⟩ = some (.int .u64 (limb v 1)) ∧ W.cell? ⟨w.heap.size, 2, none⟩ = some (.int .u64 (limb v 2)) ∧ W.cell? ⟨w.heap.size, 3, none⟩ = some (.int .u64 (limb v 3)) from ⟨by rw [← hbv]; exact ((h.after hlo).after hb).at 16 rfl, by rw [← hgd]; exact hcb W hb i hil, by rw [← hlow]; exact (zo.after hb).zero.1, (zo.after hb).zero.2⟩))
  have hzl : (js.map (fun n : Nat => (n : Int))).length = n := by rw [List.length_map, hn]
  have HBS := Lib.hid (fun W (hb : Below W0.heap.size W0 W) => Tryz.slices_BinarySearch_int b 0 n c (js.map fun n : Nat => (n : Int)) (v : Int) W (by omega) (by omega) (fun j hj => by
      rw [Nat.zero_add, hcb W hb j (by omega)]
      congr 2
      rw [List.getD_eq_getElem?_getD, List.getD_eq_getElem?_getD, List.getElem?_map]
      cases js[j]? <;> rfl) (by
      rw [List.take_of_length_le (by omega)]
      rw [List.pairwise_map]
      exact hs.imp (fun h => by omega)))
  rw [List.take_of_length_le (by omega), sorted_count hs hi] at HBS
  rw [show (js.map fun n : Nat => (n : Int)).contains (v : Int) = true from List.contains_iff_mem.2 (List.mem_map.2 ⟨v, List.mem_of_getElem? hi, rfl⟩)] at HBS
  have k1 : bits .and .u64 (v : Int) 4611686018427387903 = (v : Int) := by
    rw [show (4611686018427387903 : Int) = ((2 ^ 62 - 1 : Nat) : Int) from rfl, bits_and_u64_nat _ _ (by omega) (by decide), Nat.and_two_pow_sub_one_eq_mod, Nat.mod_eq_of_lt (by omega)]
  have k1' : IntKind.i64.wrap (v : Int) = (v : Int) := by rw [IntKind.wrap_i64]; omega
  have k2 : (0 : Int) ≤ i := by omega
  have k3 : (i : Int) < n := by omega
  clear hcb hcell hgd hzl hs hi hbv zo hlo hW0 h hz hn
  go_enter Tryz.func144, Tryz.ntmps144
  go_wp2_with (rw [HW0.out])
  refine wp_region_held_drew (S := (fun W => W.cell? ⟨p, 16, none⟩ = some (.slice (some ⟨b, 0, none⟩) n c) ∧ W.cell? ⟨w.heap.size, 0, none⟩ = some (.int .u64 v))) (by kernel_rfl) (HS1.out _ (Below.refl _ _).drew) (fun hHeld => ?_)
  refine hT 0 ?_
  refine hT 1 ?_
  refine hT 2 ?_
  refine hD 3 ?_
  refine hT 4 ?_
  refine hD 5 ?_
  refine hT 6 ?_
  refine hT 7 ?_
  refine wpAnyH_ready (rs := [8]) (by kernel_rfl) (by simp) ?_
  refine AllReadyH.cons rfl (fun K hK => ?_) AllReadyH.nil
  go_simp
  go_at_call 178
  refine (HBS.out _ (Below.refl _ _).drew).mono ?_
  rintro e w1 ⟨rfl, q, rfl⟩
  refine hK.out _ _ (HS1.out _ (Below.drewN ((Below.refl _ _).drew) q)) (fun hHeld => ?_)
  clear hK K
  try simp only [Act.put, zq]
  refine hT 9 ?_
  refine hT 10 ?_
  refine hT 11 ?_
  refine hT 12 ?_
  refine hT 13 ?_
  refine wpAnyH_done (by kernel_rfl) ?_ 0
  go_wp2_with fail
  obtain ⟨w1, hw1, hb1⟩ : ∃ W, W0.drew.drewN q = W ∧ Below W0.heap.size W0 W := ⟨_, rfl, Below.drewN ((Below.refl _ _).drew) q⟩
  try rw [hw1]
  have HB1 := Lib.hid hb1
  clear hb1 hw1
  refine wp_region_held_drew (S := (fun W => W.cell? ⟨p, 16, none⟩ = some (.slice (some ⟨b, 0, none⟩) n c) ∧ W.cell? ⟨b, i, none⟩ = some (.int .i64 v) ∧ W.cell? ⟨w.heap.size, 0, none⟩ = some (.int .u64 v) ∧ W.cell? ⟨w.heap.size, 1, none⟩ = some (.int .u64 (limb v 1)) ∧ W.cell? ⟨w.heap.size, 2, none⟩ = some (.int .u64 (limb v 2)) ∧ W.cell? ⟨w.heap.size, 3, none⟩ = some (.int .u64 (limb v 3)))) (by kernel_rfl) (HS2.out _ HB1.out.drew) (fun hHeld => ?_)
  refine hT 0 ?_
  refine hT 1 ?_
  refine hT 2 ?_
  refine hD 3 ?_
  refine hT 4 ?_
  refine hT 5 ?_
  refine hT 6 ?_
  refine hD 7 ?_
  refine hT 8 ?_
  refine hT 9 ?_
  refine hD 10 ?_
  refine wpAnyH_ready (rs := [11]) (by kernel_rfl) (by simp) ?_
  refine AllReadyH.cons rfl (fun K hK => ?_) AllReadyH.nil
  go_simp
  go_at_call 126
  refine (smallE_any v _ (by omega)).mono ?_
  rintro e w2 ⟨rfl, hb2⟩
  have HB2 := Lib.hid (HB1.out.drew.trans (hb2.mono HB1.out.drew.size))
  clear hb2
  refine hK.out _ _ (HS2.out _ HB2.out) (fun hHeld => ?_)
  clear hK K
  try simp only [Act.put, zq]
  refine hT 12 ?_
  refine hT 13 ?_
  refine wpAnyH_done (by kernel_rfl) ?_ 0
  have hfx := HF0.out.after HB2.out
  have y1 := hfx.at 22 rfl
  have y2 := hfx.ice 22
  have HFX := Lib.hid hfx
  clear hfx
  go_wp2_with fail

  go_end0
  exact ⟨⟨_, rfl⟩, ((Upf.refl p w f).next (Nat.le_of_lt hlt) (HLO.out.trans (HB2.out.mono HLO.out.size))).set 22 _ rfl, HFX.out.set 22 _ rfl rfl rfl⟩
end Go.Proofs.YtlelgbmbmajfmaaGreatDoor

namespace Go.Proofs.YtlelgbmbmajfmaaGreatDoor
open Go.RowKit Go.Shelf Go.Lib
attribute [local go_sem] Oper.semAt_some
def pcF (f : FrE) : FrE := { f with pc := f.next }
/-- what a step did: it paid, the operation did R, and goes on at the next place -/
def StepR (p : Nat) (w : World) (f g : FrE) (R : World → FrE → World → Prop) (w' : World) : Prop := ∃ W f2 w1, Upf p w f W g ∧ R W f2 w1 ∧ w' = w1.setCell ⟨p, 21, none⟩ (.int .i64 f2.next) ∧ Fra p w' (pcF f2)
theorem StepR.up {p : Nat} {w w' : World} {f g : FrE} {Q : FrE → Prop} (h : StepR p w f g (fun W f2 w1 => Q f2 ∧ Upf p W g w1 f2) w') : ∃ f2, Q f2 ∧ Upf p w f w' (pcF f2) ∧ Fra p w' (pcF f2) := by
  obtain ⟨W, f2, w1, h1, ⟨h2, h3⟩, rfl, h4⟩ := h
  exact ⟨f2, h2, (h1.trans h3).set 21 _ rfl, h4⟩
theorem indexE (l : List UInt8) (op : UInt8) (n : Nat) (hn : op.toNat = n) (w : World) : Calls Tryz.prog 98 #[.string ⟨l.toArray⟩, .int .u8 n] w fun e w' => e = .returned (.int .i64 (Lib.indexByte l op)) ∧ w' = w := by
  have h := Tryz.strings_IndexByte ⟨l.toArray⟩ (n : Int) w
  rw [show ((n : Int).toNat).toUInt8 = op from by rw [Int.toNat_natCast, ← hn]; exact UInt8.ofNat_toNat] at h
  exact h
set_option maxRecDepth 100000 in
set_option maxHeartbeats 6400000 in
theorem step_flow (p : Nat) (f : FrE) (R : World → FrE → World → Prop) (op : UInt8) (tk pt c : Nat) (w : World) (h : Fra p w f) (hop : opE f.code f.pc = op) (hinf : infoE op = (tk, pt, c, true)) (hst : tk ≤ f.stkL.length) (hmx : f.stkL.length - tk + pt ≤ 1024) (hcg : c ≤ f.gas) (hg : f.gas < 18446744073709551616) (hcl : f.code.length ≤ 1099511627776) (hpl : f.pc ≤ 1099511627776)
    (h1 : Lib.indexByte [49, 59, 63] op < 0) (h47 : op.toNat ≠ 71) (h20 : ¬ (0 < op.toNat ∧ op.toNat ≤ 32)) (h2 : Lib.indexByte [48, 50, 51, 52, 54, 56, 61, 67, 88, 89, 90] op < 0) (h3 : Lib.indexByte [53, 55, 57, 62, 81, 82, 83, 94] op < 0) (h4 : Lib.indexByte [84, 85, 92, 93] op < 0)
    (HD : ∀ W, Upf p w f W (nextF (payE f c) (nextE f.code f.pc)) → Fra p W (nextF (payE f c) (nextE f.code f.pc)) → Calls Tryz.prog 106 #[.pointer (some ⟨p, 0, none⟩), .int .u8 op.toNat, .string ⟨(dataE f.code f.pc).toArray⟩] W fun e w' => (∃ v, e = .returned v) ∧ ∃ f2, R W f2 w' ∧ Fra p w' f2) :
    Calls Tryz.prog 80 #[.pointer (some ⟨p, 0, none⟩)] w fun e w' => (∃ v, e = .returned v) ∧ StepR p w f (nextF (payE f c) (nextE f.code f.pc)) R w' := by
  have hlt := h.lt
  have H := Lib.hid h
  have HC0 := Lib.hid (And.intro (h.at 15 rfl) (h.at 21 rfl))
  obtain ⟨n, hn⟩ : ∃ n, op.toNat = n := ⟨_, rfl⟩
  obtain ⟨D, hD⟩ : ∃ D, dataE f.code f.pc = D := ⟨_, rfl⟩
  obtain ⟨nx, hnx⟩ : ∃ nx, nextE f.code f.pc = nx := ⟨_, rfl⟩
  have hat : atV f.code f.pc = .tuple #[.int .u8 n, .string ⟨D.toArray⟩, .int .i64 nx] := by unfold atV; rw [hop, hn, hD, hnx]
  have hin : infoV op = .tuple #[.int .i64 tk, .int .i64 pt, .int .u64 c, .bool true] := by unfold infoV; rw [hinf]
  have HAT := Lib.hid hat
  have HIN := Lib.hid (fun W => info_any op W)
  rw [hn, hin] at HIN
  obtain ⟨sp, sc, hstk⟩ := h.2.form
  obtain ⟨N, hN⟩ : ∃ N, f.stkL.length = N := ⟨_, rfl⟩
  rw [hN] at hstk
  rw [hN] at hst hmx
  obtain ⟨rh1, hrh1⟩ : ∃ r, Lib.indexByte [49, 59, 63] op = r := ⟨_, rfl⟩
  have HH1 := Lib.hid (fun W => indexE [49, 59, 63] op n hn W)
  rw [hrh1] at HH1 h1
  obtain ⟨rh2, hrh2⟩ : ∃ r, Lib.indexByte [48, 50, 51, 52, 54, 56, 61, 67, 88, 89, 90] op = r := ⟨_, rfl⟩
  have HH2 := Lib.hid (fun W => indexE [48, 50, 51, 52, 54, 56, 61, 67, 88, 89, 90] op n hn W)
  rw [hrh2] at HH2 h2
  obtain ⟨rh3, hrh3⟩ : ∃ r, Lib.indexByte [53, 55, 57, 62, 81, 82, 83, 94] op = r := ⟨_, rfl⟩
  have HH3 := Lib.hid (fun W => indexE [53, 55, 57, 62, 81, 82, 83, 94] op n hn W)
  rw [hrh3] at HH3 h3
  obtain ⟨rh4, hrh4⟩ : ∃ r, Lib.indexByte [84, 85, 92, 93] op = r := ⟨_, rfl⟩
  have HH4 := Lib.hid (fun W => indexE [84, 85, 92, 93] op n hn W)
  rw [hrh4] at HH4 h4
  have h1x : ¬ (0 ≤ rh1) := by omega
  have h2x : ¬ (0 ≤ rh2) := by omega
  have h3x : ¬ (0 ≤ rh3) := by omega
  have h4x : ¬ (0 ≤ rh4) := by omega
  rw [hn] at h47 h20 HD
  rw [hD, hnx] at HD
  rw [hnx]
  have HDD := Lib.hid HD
  have k1 : ¬ ((N : Int) < tk) := by omega
  have k2 : IntKind.i64.wrap ((N : Int) - tk) = ((N - tk : Nat) : Int) := by rw [IntKind.wrap_i64]; omega
  have k2' : (N : Int) - tk = ((N - tk : Nat) : Int) := by omega
  obtain ⟨u, hu⟩ : ∃ u, N - tk = u := ⟨_, rfl⟩
  rw [hu] at k2 k2' hmx
  have k3 : IntKind.i64.wrap ((u : Int) + pt) = (u : Int) + pt := by rw [IntKind.wrap_i64]; omega
  have k4 : ¬ ((1024 : Int) < (u : Int) + pt) := by omega
  have k5 : ¬ ((n : Int) = 71) := by omega
  have HP := Lib.hid (fun W (hF : Fra p W f) => pay_some p f c W hF hg hcg)
  by_cases h0 : 0 < n
  · have k6 : (0 : Int) < n := by omega
    have k7 : ¬ ((n : Int) ≤ 32) := by omega
    clear h hop hinf hst hmx hN hD hnx hat hin HD h47 hu hrh1 hrh2 hrh3 hrh4
    go_enter Tryz.func80, Tryz.ntmps80
    go_wp2_with fail
    refine wp_region_held_drew (S := (fun W => W.cell? ⟨p, 15, none⟩ = some (.string ⟨f.code.toArray⟩) ∧ W.cell? ⟨p, 21, none⟩ = some (.int .i64 f.pc))) (by kernel_rfl) (HC0.out) (fun hHeld => ?_)
    refine hT 0 ?_
    refine hT 1 ?_
    refine hT 2 ?_
    refine hD 3 ?_
    refine hT 4 ?_
    refine hT 5 ?_
    refine hT 6 ?_
    refine hD 7 ?_
    refine wpAnyH_ready (rs := [8]) (by kernel_rfl) (by simp) ?_
    refine AllReadyH.cons rfl (fun K hK => ?_) AllReadyH.nil
    go_simp
    go_at_call 94
    refine (codeAt_any f.code f.pc _ hcl hpl).mono ?_
    rintro e w1 ⟨rfl, hb1⟩
    have HB1 := Lib.hid ((Below.refl w.heap.size w).drew.trans hb1)
    have HF1 := Lib.hid (H.out.after HB1.out)
    clear hb1
    rw [HAT.out]
    refine hK.out _ _ (⟨HF1.out.at 15 rfl, HF1.out.at 21 rfl⟩) (fun hHeld => ?_)
    clear hK K
    try simp only [Act.put, zq]
    refine hT 9 ?_
    refine hT 10 ?_
    refine hT 11 ?_
    refine hT 12 ?_
    refine hT 13 ?_
    refine hT 14 ?_
    refine hT 15 ?_
    refine wpAnyH_done (by kernel_rfl) ?_ 0
    go_wp2_with fail
    refine (HIN.out _).mono ?_
    rintro e w2 ⟨rfl, hb2⟩
    have HB2 := Lib.hid (HB1.out.trans (hb2.mono HB1.out.size))
    have HF2 := Lib.hid (H.out.after HB2.out)
    have y1 := HF2.out.at 17 rfl
    rw [hstk] at y1
    clear hb2 hHeld
    go_wp2_with fail
    refine (HP.out _ HF2.out).mono ?_
    rintro e w3 ⟨rfl, hu3, hf3⟩
    have HU3 := Lib.hid (((Upf.refl p w f).next (Nat.le_of_lt hlt) HB2.out).trans hu3)
    have HF3 := Lib.hid hf3
    have y2 := hf3.at 22 rfl
    have y3 := hf3.ice 22
    clear hu3 hf3 y1
    go_wp2_with fail
    obtain ⟨w4, hw4⟩ : ∃ W, w3.setCell ⟨p, 22, none⟩ (.int .i64 nx) = W := ⟨_, rfl⟩
    have HF4 := Lib.hid (show Fra p w4 (nextF (payE f c) nx) from by rw [← hw4]; exact HF3.out.set 22 _ rfl rfl rfl)
    have HU4 := Lib.hid (show Upf p w f w4 (nextF (payE f c) nx) from by rw [← hw4]; exact HU3.out.set 22 _ rfl)
    rw [hw4]
    clear hw4 y2 y3
    refine (HH1.out _).mono ?_
    rintro e w5 ⟨rfl, rfl⟩
    go_wp2_with (first | (go_at_call 98; (first | (refine (HH1.out _).mono ?_) | (refine (HH2.out _).mono ?_) | (refine (HH3.out _).mono ?_) | (refine (HH4.out _).mono ?_)); rintro e w5 ⟨rfl, rfl⟩))
    refine (HDD.out _ HU4.out HF4.out).mono ?_
    rintro e w6 ⟨⟨v6, rfl⟩, f2, hr6, hf6⟩
    have HR6 := Lib.hid hr6
    have HF6 := Lib.hid hf6
    have y4 := hf6.at 22 rfl
    have y5 := hf6.at 21 rfl
    have y6 := hf6.ice 21
    clear hr6 hf6
    go_wp2
    go_end0
    exact ⟨⟨_, rfl⟩, _, f2, _, HU4.out, HR6.out, rfl, HF6.out.set 21 _ rfl rfl rfl⟩
  · have k6 : ¬ ((0 : Int) < n) := by omega
    clear h hop hinf hst hmx hN hD hnx hat hin HD h47 hu hrh1 hrh2 hrh3 hrh4
    go_enter Tryz.func80, Tryz.ntmps80
    go_wp2_with fail
    refine wp_region_held_drew (S := (fun W => W.cell? ⟨p, 15, none⟩ = some (.string ⟨f.code.toArray⟩) ∧ W.cell? ⟨p, 21, none⟩ = some (.int .i64 f.pc))) (by kernel_rfl) (HC0.out) (fun hHeld => ?_)
    refine hT 0 ?_
    refine hT 1 ?_
    refine hT 2 ?_
    refine hD 3 ?_
    refine hT 4 ?_
    refine hT 5 ?_
    refine hT 6 ?_
    refine hD 7 ?_
    refine wpAnyH_ready (rs := [8]) (by kernel_rfl) (by simp) ?_
    refine AllReadyH.cons rfl (fun K hK => ?_) AllReadyH.nil
    go_simp
    go_at_call 94
    refine (codeAt_any f.code f.pc _ hcl hpl).mono ?_
    rintro e w1 ⟨rfl, hb1⟩
    have HB1 := Lib.hid ((Below.refl w.heap.size w).drew.trans hb1)
    have HF1 := Lib.hid (H.out.after HB1.out)
    clear hb1
    rw [HAT.out]
    refine hK.out _ _ (⟨HF1.out.at 15 rfl, HF1.out.at 21 rfl⟩) (fun hHeld => ?_)
    clear hK K
    try simp only [Act.put, zq]
    refine hT 9 ?_
    refine hT 10 ?_
    refine hT 11 ?_
    refine hT 12 ?_
    refine hT 13 ?_
    refine hT 14 ?_
    refine hT 15 ?_
    refine wpAnyH_done (by kernel_rfl) ?_ 0
    go_wp2_with fail
    refine (HIN.out _).mono ?_
    rintro e w2 ⟨rfl, hb2⟩
    have HB2 := Lib.hid (HB1.out.trans (hb2.mono HB1.out.size))
    have HF2 := Lib.hid (H.out.after HB2.out)
    have y1 := HF2.out.at 17 rfl
    rw [hstk] at y1
    clear hb2 hHeld
    go_wp2_with fail
    refine (HP.out _ HF2.out).mono ?_
    rintro e w3 ⟨rfl, hu3, hf3⟩
    have HU3 := Lib.hid (((Upf.refl p w f).next (Nat.le_of_lt hlt) HB2.out).trans hu3)
    have HF3 := Lib.hid hf3
    have y2 := hf3.at 22 rfl
    have y3 := hf3.ice 22
    clear hu3 hf3 y1
    go_wp2_with fail
    obtain ⟨w4, hw4⟩ : ∃ W, w3.setCell ⟨p, 22, none⟩ (.int .i64 nx) = W := ⟨_, rfl⟩
    have HF4 := Lib.hid (show Fra p w4 (nextF (payE f c) nx) from by rw [← hw4]; exact HF3.out.set 22 _ rfl rfl rfl)
    have HU4 := Lib.hid (show Upf p w f w4 (nextF (payE f c) nx) from by rw [← hw4]; exact HU3.out.set 22 _ rfl)
    rw [hw4]
    clear hw4 y2 y3
    refine (HH1.out _).mono ?_
    rintro e w5 ⟨rfl, rfl⟩
    go_wp2_with (first | (go_at_call 98; (first | (refine (HH1.out _).mono ?_) | (refine (HH2.out _).mono ?_) | (refine (HH3.out _).mono ?_) | (refine (HH4.out _).mono ?_)); rintro e w5 ⟨rfl, rfl⟩))
    refine (HDD.out _ HU4.out HF4.out).mono ?_
    rintro e w6 ⟨⟨v6, rfl⟩, f2, hr6, hf6⟩
    have HR6 := Lib.hid hr6
    have HF6 := Lib.hid hf6
    have y4 := hf6.at 22 rfl
    have y5 := hf6.at 21 rfl
    have y6 := hf6.ice 21
    clear hr6 hf6
    go_wp2
    go_end0
    exact ⟨⟨_, rfl⟩, _, f2, _, HU4.out, HR6.out, rfl, HF6.out.set 21 _ rfl rfl rfl⟩
set_option maxRecDepth 100000 in
set_option maxHeartbeats 6400000 in
theorem step_reckon (p : Nat) (f : FrE) (R : World → FrE → World → Prop) (op : UInt8) (tk pt c : Nat) (w : World) (h : Fra p w f) (hop : opE f.code f.pc = op) (hinf : infoE op = (tk, pt, c, true)) (hst : tk ≤ f.stkL.length) (hmx : f.stkL.length - tk + pt ≤ 1024) (hcg : c ≤ f.gas) (hg : f.gas < 18446744073709551616) (hcl : f.code.length ≤ 1099511627776) (hpl : f.pc ≤ 1099511627776)
    (h1 : Lib.indexByte [49, 59, 63] op < 0) (_ : op.toNat ≠ 71) (h20 : 0 < op.toNat ∧ op.toNat ≤ 32)
    (HD : ∀ W, Upf p w f W (nextF (payE f c) (nextE f.code f.pc)) → Fra p W (nextF (payE f c) (nextE f.code f.pc)) → Calls Tryz.prog 102 #[.pointer (some ⟨p, 0, none⟩), .int .u8 op.toNat] W fun e w' => (∃ v, e = .returned v) ∧ ∃ f2, R W f2 w' ∧ Fra p w' f2) :
    Calls Tryz.prog 80 #[.pointer (some ⟨p, 0, none⟩)] w fun e w' => (∃ v, e = .returned v) ∧ StepR p w f (nextF (payE f c) (nextE f.code f.pc)) R w' := by
  have hlt := h.lt
  have H := Lib.hid h
  have HC0 := Lib.hid (And.intro (h.at 15 rfl) (h.at 21 rfl))
  obtain ⟨n, hn⟩ : ∃ n, op.toNat = n := ⟨_, rfl⟩
  obtain ⟨D, hD⟩ : ∃ D, dataE f.code f.pc = D := ⟨_, rfl⟩
  obtain ⟨nx, hnx⟩ : ∃ nx, nextE f.code f.pc = nx := ⟨_, rfl⟩
  have hat : atV f.code f.pc = .tuple #[.int .u8 n, .string ⟨D.toArray⟩, .int .i64 nx] := by unfold atV; rw [hop, hn, hD, hnx]
  have hin : infoV op = .tuple #[.int .i64 tk, .int .i64 pt, .int .u64 c, .bool true] := by unfold infoV; rw [hinf]
  have HAT := Lib.hid hat
  have HIN := Lib.hid (fun W => info_any op W)
  rw [hn, hin] at HIN
  obtain ⟨sp, sc, hstk⟩ := h.2.form
  obtain ⟨N, hN⟩ : ∃ N, f.stkL.length = N := ⟨_, rfl⟩
  rw [hN] at hstk
  rw [hN] at hst hmx
  obtain ⟨rh1, hrh1⟩ : ∃ r, Lib.indexByte [49, 59, 63] op = r := ⟨_, rfl⟩
  have HH1 := Lib.hid (fun W => indexE [49, 59, 63] op n hn W)
  rw [hrh1] at HH1 h1
  have h1x : ¬ (0 ≤ rh1) := by omega
  rw [hn] at h20 HD
  rw [hnx] at HD ⊢
  have HDD := Lib.hid HD
  have k1 : ¬ ((N : Int) < tk) := by omega
  have k2 : IntKind.i64.wrap ((N : Int) - tk) = ((N - tk : Nat) : Int) := by rw [IntKind.wrap_i64]; omega
  have k2' : (N : Int) - tk = ((N - tk : Nat) : Int) := by omega
  obtain ⟨u, hu⟩ : ∃ u, N - tk = u := ⟨_, rfl⟩
  rw [hu] at k2 k2' hmx
  have k3 : IntKind.i64.wrap ((u : Int) + pt) = (u : Int) + pt := by rw [IntKind.wrap_i64]; omega
  have k4 : ¬ ((1024 : Int) < (u : Int) + pt) := by omega
  have k5 : ¬ ((n : Int) = 71) := by omega
  have HP := Lib.hid (fun W (hF : Fra p W f) => pay_some p f c W hF hg hcg)
  have k6 : (0 : Int) < n := by omega
  have k7 : (n : Int) ≤ 32 := by omega
  clear h hop hinf hst hmx hN hD hnx hat hin HD hu hrh1
  go_enter Tryz.func80, Tryz.ntmps80
  go_wp2_with fail
  refine wp_region_held_drew (S := (fun W => W.cell? ⟨p, 15, none⟩ = some (.string ⟨f.code.toArray⟩) ∧ W.cell? ⟨p, 21, none⟩ = some (.int .i64 f.pc))) (by kernel_rfl) (HC0.out) (fun hHeld => ?_)
  refine hT 0 ?_
  refine hT 1 ?_
  refine hT 2 ?_
  refine hD 3 ?_
  refine hT 4 ?_
  refine hT 5 ?_
  refine hT 6 ?_
  refine hD 7 ?_
  refine wpAnyH_ready (rs := [8]) (by kernel_rfl) (by simp) ?_
  refine AllReadyH.cons rfl (fun K hK => ?_) AllReadyH.nil
  go_simp
  go_at_call 94
  refine (codeAt_any f.code f.pc _ hcl hpl).mono ?_
  rintro e w1 ⟨rfl, hb1⟩
  have HB1 := Lib.hid ((Below.refl w.heap.size w).drew.trans hb1)
  have HF1 := Lib.hid (H.out.after HB1.out)
  clear hb1
  rw [HAT.out]
  refine hK.out _ _ (⟨HF1.out.at 15 rfl, HF1.out.at 21 rfl⟩) (fun hHeld => ?_)
  clear hK K
  try simp only [Act.put, zq]
  refine hT 9 ?_
  refine hT 10 ?_
  refine hT 11 ?_
  refine hT 12 ?_
  refine hT 13 ?_
  refine hT 14 ?_
  refine hT 15 ?_
  refine wpAnyH_done (by kernel_rfl) ?_ 0
  go_wp2_with fail
  refine (HIN.out _).mono ?_
  rintro e w2 ⟨rfl, hb2⟩
  have HB2 := Lib.hid (HB1.out.trans (hb2.mono HB1.out.size))
  have HF2 := Lib.hid (H.out.after HB2.out)
  have y1 := HF2.out.at 17 rfl
  rw [hstk] at y1
  clear hb2 hHeld
  go_wp2_with fail
  refine (HP.out _ HF2.out).mono ?_
  rintro e w3 ⟨rfl, hu3, hf3⟩
  have HU3 := Lib.hid (((Upf.refl p w f).next (Nat.le_of_lt hlt) HB2.out).trans hu3)
  have HF3 := Lib.hid hf3
  have y2 := hf3.at 22 rfl
  have y3 := hf3.ice 22
  clear hu3 hf3 y1
  go_wp2_with fail
  obtain ⟨w4, hw4⟩ : ∃ W, w3.setCell ⟨p, 22, none⟩ (.int .i64 nx) = W := ⟨_, rfl⟩
  have HF4 := Lib.hid (show Fra p w4 (nextF (payE f c) nx) from by rw [← hw4]; exact HF3.out.set 22 _ rfl rfl rfl)
  have HU4 := Lib.hid (show Upf p w f w4 (nextF (payE f c) nx) from by rw [← hw4]; exact HU3.out.set 22 _ rfl)
  rw [hw4]
  clear hw4 y2 y3
  refine (HH1.out _).mono ?_
  rintro e w5 ⟨rfl, rfl⟩
  go_wp2_with (first | (go_at_call 98; (first | (refine (HH1.out _).mono ?_)); rintro e w5 ⟨rfl, rfl⟩))
  refine (HDD.out _ HU4.out HF4.out).mono ?_
  rintro e w6 ⟨⟨v6, rfl⟩, f2, hr6, hf6⟩
  have HR6 := Lib.hid hr6
  have HF6 := Lib.hid hf6
  have y4 := hf6.at 22 rfl
  have y5 := hf6.at 21 rfl
  have y6 := hf6.ice 21
  clear hr6 hf6
  go_wp2
  go_end0
  exact ⟨⟨_, rfl⟩, _, f2, _, HU4.out, HR6.out, rfl, HF6.out.set 21 _ rfl rfl rfl⟩
set_option maxRecDepth 100000 in
set_option maxHeartbeats 6400000 in
theorem step_memory (p : Nat) (f : FrE) (R : World → FrE → World → Prop) (op : UInt8) (tk pt c : Nat) (w : World) (h : Fra p w f) (hop : opE f.code f.pc = op) (hinf : infoE op = (tk, pt, c, true)) (hst : tk ≤ f.stkL.length) (hmx : f.stkL.length - tk + pt ≤ 1024) (hcg : c ≤ f.gas) (hg : f.gas < 18446744073709551616) (hcl : f.code.length ≤ 1099511627776) (hpl : f.pc ≤ 1099511627776)
    (h1 : Lib.indexByte [49, 59, 63] op < 0) (h47 : op.toNat ≠ 71) (h20 : ¬ (0 < op.toNat ∧ op.toNat ≤ 32)) (h2 : Lib.indexByte [48, 50, 51, 52, 54, 56, 61, 67, 88, 89, 90] op < 0) (h3 : 0 ≤ Lib.indexByte [53, 55, 57, 62, 81, 82, 83, 94] op)
    (HD : ∀ W, Upf p w f W (nextF (payE f c) (nextE f.code f.pc)) → Fra p W (nextF (payE f c) (nextE f.code f.pc)) → Calls Tryz.prog 104 #[.pointer (some ⟨p, 0, none⟩), .int .u8 op.toNat] W fun e w' => (∃ v, e = .returned v) ∧ ∃ f2, R W f2 w' ∧ Fra p w' f2) :
    Calls Tryz.prog 80 #[.pointer (some ⟨p, 0, none⟩)] w fun e w' => (∃ v, e = .returned v) ∧ StepR p w f (nextF (payE f c) (nextE f.code f.pc)) R w' := by
  have hlt := h.lt
  have H := Lib.hid h
  have HC0 := Lib.hid (And.intro (h.at 15 rfl) (h.at 21 rfl))
  obtain ⟨n, hn⟩ : ∃ n, op.toNat = n := ⟨_, rfl⟩
  obtain ⟨D, hD⟩ : ∃ D, dataE f.code f.pc = D := ⟨_, rfl⟩
  obtain ⟨nx, hnx⟩ : ∃ nx, nextE f.code f.pc = nx := ⟨_, rfl⟩
  have hat : atV f.code f.pc = .tuple #[.int .u8 n, .string ⟨D.toArray⟩, .int .i64 nx] := by unfold atV; rw [hop, hn, hD, hnx]
  have hin : infoV op = .tuple #[.int .i64 tk, .int .i64 pt, .int .u64 c, .bool true] := by unfold infoV; rw [hinf]
  have HAT := Lib.hid hat
  have HIN := Lib.hid (fun W => info_any op W)
  rw [hn, hin] at HIN
  obtain ⟨sp, sc, hstk⟩ := h.2.form
  obtain ⟨N, hN⟩ : ∃ N, f.stkL.length = N := ⟨_, rfl⟩
  rw [hN] at hstk
  rw [hN] at hst hmx
  obtain ⟨rh1, hrh1⟩ : ∃ r, Lib.indexByte [49, 59, 63] op = r := ⟨_, rfl⟩
  have HH1 := Lib.hid (fun W => indexE [49, 59, 63] op n hn W)
  rw [hrh1] at HH1 h1
  obtain ⟨rh2, hrh2⟩ : ∃ r, Lib.indexByte [48, 50, 51, 52, 54, 56, 61, 67, 88, 89, 90] op = r := ⟨_, rfl⟩
  have HH2 := Lib.hid (fun W => indexE [48, 50, 51, 52, 54, 56, 61, 67, 88, 89, 90] op n hn W)
  rw [hrh2] at HH2 h2
  obtain ⟨rh3, hrh3⟩ : ∃ r, Lib.indexByte [53, 55, 57, 62, 81, 82, 83, 94] op = r := ⟨_, rfl⟩
  have HH3 := Lib.hid (fun W => indexE [53, 55, 57, 62, 81, 82, 83, 94] op n hn W)
  rw [hrh3] at HH3 h3
  have h1x : ¬ (0 ≤ rh1) := by omega
  have h2x : ¬ (0 ≤ rh2) := by omega
  rw [hn] at h47 h20 HD
  rw [hnx] at HD ⊢
  have HDD := Lib.hid HD
  have k1 : ¬ ((N : Int) < tk) := by omega
  have k2 : IntKind.i64.wrap ((N : Int) - tk) = ((N - tk : Nat) : Int) := by rw [IntKind.wrap_i64]; omega
  have k2' : (N : Int) - tk = ((N - tk : Nat) : Int) := by omega
  obtain ⟨u, hu⟩ : ∃ u, N - tk = u := ⟨_, rfl⟩
  rw [hu] at k2 k2' hmx
  have k3 : IntKind.i64.wrap ((u : Int) + pt) = (u : Int) + pt := by rw [IntKind.wrap_i64]; omega
  have k4 : ¬ ((1024 : Int) < (u : Int) + pt) := by omega
  have k5 : ¬ ((n : Int) = 71) := by omega
  have HP := Lib.hid (fun W (hF : Fra p W f) => pay_some p f c W hF hg hcg)
  by_cases h0 : 0 < n
  · have k6 : (0 : Int) < n := by omega
    have k7 : ¬ ((n : Int) ≤ 32) := by omega
    clear h hop hinf hst hmx hN hD hnx hat hin HD h47 hu hrh1 hrh2 hrh3
    go_enter Tryz.func80, Tryz.ntmps80
    go_wp2_with fail
    refine wp_region_held_drew (S := (fun W => W.cell? ⟨p, 15, none⟩ = some (.string ⟨f.code.toArray⟩) ∧ W.cell? ⟨p, 21, none⟩ = some (.int .i64 f.pc))) (by kernel_rfl) (HC0.out) (fun hHeld => ?_)
    refine hT 0 ?_
    refine hT 1 ?_
    refine hT 2 ?_
    refine hD 3 ?_
    refine hT 4 ?_
    refine hT 5 ?_
    refine hT 6 ?_
    refine hD 7 ?_
    refine wpAnyH_ready (rs := [8]) (by kernel_rfl) (by simp) ?_
    refine AllReadyH.cons rfl (fun K hK => ?_) AllReadyH.nil
    go_simp
    go_at_call 94
    refine (codeAt_any f.code f.pc _ hcl hpl).mono ?_
    rintro e w1 ⟨rfl, hb1⟩
    have HB1 := Lib.hid ((Below.refl w.heap.size w).drew.trans hb1)
    have HF1 := Lib.hid (H.out.after HB1.out)
    clear hb1
    rw [HAT.out]
    refine hK.out _ _ (⟨HF1.out.at 15 rfl, HF1.out.at 21 rfl⟩) (fun hHeld => ?_)
    clear hK K
    try simp only [Act.put, zq]
    refine hT 9 ?_
    refine hT 10 ?_
    refine hT 11 ?_
    refine hT 12 ?_
    refine hT 13 ?_
    refine hT 14 ?_
    refine hT 15 ?_
    refine wpAnyH_done (by kernel_rfl) ?_ 0
    go_wp2_with fail
    refine (HIN.out _).mono ?_
    rintro e w2 ⟨rfl, hb2⟩
    have HB2 := Lib.hid (HB1.out.trans (hb2.mono HB1.out.size))
    have HF2 := Lib.hid (H.out.after HB2.out)
    have y1 := HF2.out.at 17 rfl
    rw [hstk] at y1
    clear hb2 hHeld
    go_wp2_with fail
    refine (HP.out _ HF2.out).mono ?_
    rintro e w3 ⟨rfl, hu3, hf3⟩
    have HU3 := Lib.hid (((Upf.refl p w f).next (Nat.le_of_lt hlt) HB2.out).trans hu3)
    have HF3 := Lib.hid hf3
    have y2 := hf3.at 22 rfl
    have y3 := hf3.ice 22
    clear hu3 hf3 y1
    go_wp2_with fail
    obtain ⟨w4, hw4⟩ : ∃ W, w3.setCell ⟨p, 22, none⟩ (.int .i64 nx) = W := ⟨_, rfl⟩
    have HF4 := Lib.hid (show Fra p w4 (nextF (payE f c) nx) from by rw [← hw4]; exact HF3.out.set 22 _ rfl rfl rfl)
    have HU4 := Lib.hid (show Upf p w f w4 (nextF (payE f c) nx) from by rw [← hw4]; exact HU3.out.set 22 _ rfl)
    rw [hw4]
    clear hw4 y2 y3
    refine (HH1.out _).mono ?_
    rintro e w5 ⟨rfl, rfl⟩
    go_wp2_with (first | (go_at_call 98; (first | (refine (HH1.out _).mono ?_) | (refine (HH2.out _).mono ?_) | (refine (HH3.out _).mono ?_)); rintro e w5 ⟨rfl, rfl⟩))
    refine (HDD.out _ HU4.out HF4.out).mono ?_
    rintro e w6 ⟨⟨v6, rfl⟩, f2, hr6, hf6⟩
    have HR6 := Lib.hid hr6
    have HF6 := Lib.hid hf6
    have y4 := hf6.at 22 rfl
    have y5 := hf6.at 21 rfl
    have y6 := hf6.ice 21
    clear hr6 hf6
    go_wp2
    go_end0
    exact ⟨⟨_, rfl⟩, _, f2, _, HU4.out, HR6.out, rfl, HF6.out.set 21 _ rfl rfl rfl⟩
  · have k6 : ¬ ((0 : Int) < n) := by omega
    clear h hop hinf hst hmx hN hD hnx hat hin HD h47 hu hrh1 hrh2 hrh3
    go_enter Tryz.func80, Tryz.ntmps80
    go_wp2_with fail
    refine wp_region_held_drew (S := (fun W => W.cell? ⟨p, 15, none⟩ = some (.string ⟨f.code.toArray⟩) ∧ W.cell? ⟨p, 21, none⟩ = some (.int .i64 f.pc))) (by kernel_rfl) (HC0.out) (fun hHeld => ?_)
    refine hT 0 ?_
    refine hT 1 ?_
    refine hT 2 ?_
    refine hD 3 ?_
    refine hT 4 ?_
    refine hT 5 ?_
    refine hT 6 ?_
    refine hD 7 ?_
    refine wpAnyH_ready (rs := [8]) (by kernel_rfl) (by simp) ?_
    refine AllReadyH.cons rfl (fun K hK => ?_) AllReadyH.nil
    go_simp
    go_at_call 94
    refine (codeAt_any f.code f.pc _ hcl hpl).mono ?_
    rintro e w1 ⟨rfl, hb1⟩
    have HB1 := Lib.hid ((Below.refl w.heap.size w).drew.trans hb1)
    have HF1 := Lib.hid (H.out.after HB1.out)
    clear hb1
    rw [HAT.out]
    refine hK.out _ _ (⟨HF1.out.at 15 rfl, HF1.out.at 21 rfl⟩) (fun hHeld => ?_)
    clear hK K
    try simp only [Act.put, zq]
    refine hT 9 ?_
    refine hT 10 ?_
    refine hT 11 ?_
    refine hT 12 ?_
    refine hT 13 ?_
    refine hT 14 ?_
    refine hT 15 ?_
    refine wpAnyH_done (by kernel_rfl) ?_ 0
    go_wp2_with fail
    refine (HIN.out _).mono ?_
    rintro e w2 ⟨rfl, hb2⟩
    have HB2 := Lib.hid (HB1.out.trans (hb2.mono HB1.out.size))
    have HF2 := Lib.hid (H.out.after HB2.out)
    have y1 := HF2.out.at 17 rfl
    rw [hstk] at y1
    clear hb2 hHeld
    go_wp2_with fail
    refine (HP.out _ HF2.out).mono ?_
    rintro e w3 ⟨rfl, hu3, hf3⟩
    have HU3 := Lib.hid (((Upf.refl p w f).next (Nat.le_of_lt hlt) HB2.out).trans hu3)
    have HF3 := Lib.hid hf3
    have y2 := hf3.at 22 rfl
    have y3 := hf3.ice 22
    clear hu3 hf3 y1
    go_wp2_with fail
    obtain ⟨w4, hw4⟩ : ∃ W, w3.setCell ⟨p, 22, none⟩ (.int .i64 nx) = W := ⟨_, rfl⟩
    have HF4 := Lib.hid (show Fra p w4 (nextF (payE f c) nx) from by rw [← hw4]; exact HF3.out.set 22 _ rfl rfl rfl)
    have HU4 := Lib.hid (show Upf p w f w4 (nextF (payE f c) nx) from by rw [← hw4]; exact HU3.out.set 22 _ rfl)
    rw [hw4]
    clear hw4 y2 y3
    refine (HH1.out _).mono ?_
    rintro e w5 ⟨rfl, rfl⟩
    go_wp2_with (first | (go_at_call 98; (first | (refine (HH1.out _).mono ?_) | (refine (HH2.out _).mono ?_) | (refine (HH3.out _).mono ?_)); rintro e w5 ⟨rfl, rfl⟩))
    refine (HDD.out _ HU4.out HF4.out).mono ?_
    rintro e w6 ⟨⟨v6, rfl⟩, f2, hr6, hf6⟩
    have HR6 := Lib.hid hr6
    have HF6 := Lib.hid hf6
    have y4 := hf6.at 22 rfl
    have y5 := hf6.at 21 rfl
    have y6 := hf6.ice 21
    clear hr6 hf6
    go_wp2
    go_end0
    exact ⟨⟨_, rfl⟩, _, f2, _, HU4.out, HR6.out, rfl, HF6.out.set 21 _ rfl rfl rfl⟩
set_option maxRecDepth 100000 in
set_option maxHeartbeats 6400000 in
theorem step_poor (p : Nat) (f : FrE) (op : UInt8) (tk pt c : Nat) (w : World) (h : Fra p w f) (hop : opE f.code f.pc = op) (hinf : infoE op = (tk, pt, c, true)) (hst : tk ≤ f.stkL.length) (hmx : f.stkL.length - tk + pt ≤ 1024) (hcg : f.gas < c) (hcl : f.code.length ≤ 1099511627776) (hpl : f.pc ≤ 1099511627776) :
    Calls Tryz.prog 80 #[.pointer (some ⟨p, 0, none⟩)] w fun e w' => (∃ v, e = .returned v) ∧ Upf p w f w' (failE f) ∧ Fra p w' (failE f) := by
  have hlt := h.lt
  have H := Lib.hid h
  have HC0 := Lib.hid (And.intro (h.at 15 rfl) (h.at 21 rfl))
  obtain ⟨n, hn⟩ : ∃ n, op.toNat = n := ⟨_, rfl⟩
  obtain ⟨D, hD⟩ : ∃ D, dataE f.code f.pc = D := ⟨_, rfl⟩
  obtain ⟨nx, hnx⟩ : ∃ nx, nextE f.code f.pc = nx := ⟨_, rfl⟩
  have hat : atV f.code f.pc = .tuple #[.int .u8 n, .string ⟨D.toArray⟩, .int .i64 nx] := by unfold atV; rw [hop, hn, hD, hnx]
  have hin : infoV op = .tuple #[.int .i64 tk, .int .i64 pt, .int .u64 c, .bool true] := by unfold infoV; rw [hinf]
  have HAT := Lib.hid hat
  have HIN := Lib.hid (fun W => info_any op W)
  rw [hn, hin] at HIN
  obtain ⟨sp, sc, hstk⟩ := h.2.form
  obtain ⟨N, hN⟩ : ∃ N, f.stkL.length = N := ⟨_, rfl⟩
  rw [hN] at hstk
  rw [hN] at hst hmx
  have k1 : ¬ ((N : Int) < tk) := by omega
  have k2 : IntKind.i64.wrap ((N : Int) - tk) = ((N - tk : Nat) : Int) := by rw [IntKind.wrap_i64]; omega
  have k2' : (N : Int) - tk = ((N - tk : Nat) : Int) := by omega
  obtain ⟨u, hu⟩ : ∃ u, N - tk = u := ⟨_, rfl⟩
  rw [hu] at k2 k2' hmx
  have k3 : IntKind.i64.wrap ((u : Int) + pt) = (u : Int) + pt := by rw [IntKind.wrap_i64]; omega
  have k4 : ¬ ((1024 : Int) < (u : Int) + pt) := by omega
  have HP := Lib.hid (fun W (hF : Fra p W f) => pay_none p f c W hF hcg)
  clear h hop hinf hst hmx hN hD hnx hat hin hu
  go_enter Tryz.func80, Tryz.ntmps80
  go_wp2_with fail
  refine wp_region_held_drew (S := (fun W => W.cell? ⟨p, 15, none⟩ = some (.string ⟨f.code.toArray⟩) ∧ W.cell? ⟨p, 21, none⟩ = some (.int .i64 f.pc))) (by kernel_rfl) (HC0.out) (fun hHeld => ?_)
  refine hT 0 ?_
  refine hT 1 ?_
  refine hT 2 ?_
  refine hD 3 ?_
  refine hT 4 ?_
  refine hT 5 ?_
  refine hT 6 ?_
  refine hD 7 ?_
  refine wpAnyH_ready (rs := [8]) (by kernel_rfl) (by simp) ?_
  refine AllReadyH.cons rfl (fun K hK => ?_) AllReadyH.nil
  go_simp
  go_at_call 94
  refine (codeAt_any f.code f.pc _ hcl hpl).mono ?_
  rintro e w1 ⟨rfl, hb1⟩
  have HB1 := Lib.hid ((Below.refl w.heap.size w).drew.trans hb1)
  have HF1 := Lib.hid (H.out.after HB1.out)
  clear hb1
  rw [HAT.out]
  refine hK.out _ _ (⟨HF1.out.at 15 rfl, HF1.out.at 21 rfl⟩) (fun hHeld => ?_)
  clear hK K
  try simp only [Act.put, zq]
  refine hT 9 ?_
  refine hT 10 ?_
  refine hT 11 ?_
  refine hT 12 ?_
  refine hT 13 ?_
  refine hT 14 ?_
  refine hT 15 ?_
  refine wpAnyH_done (by kernel_rfl) ?_ 0
  go_wp2_with fail
  refine (HIN.out _).mono ?_
  rintro e w2 ⟨rfl, hb2⟩
  have HB2 := Lib.hid (HB1.out.trans (hb2.mono HB1.out.size))
  have HF2 := Lib.hid (H.out.after HB2.out)
  have y1 := HF2.out.at 17 rfl
  rw [hstk] at y1
  clear hb2 hHeld
  go_wp2_with fail
  refine (HP.out _ HF2.out).mono ?_
  rintro e w3 ⟨rfl, hu3, hf3⟩
  have HU3 := Lib.hid (((Upf.refl p w f).next (Nat.le_of_lt hlt) HB2.out).trans hu3)
  have HF3 := Lib.hid hf3
  clear hu3 hf3 y1
  go_wp2_with fail
  refine (fail_any p (failE f) _ HF3.out).mono ?_
  rintro e w4 ⟨rfl, hu4, hf4⟩
  have HU4 := Lib.hid (HU3.out.trans hu4)
  have HF4 := Lib.hid hf4
  clear hu4 hf4
  go_wp2
  first | go_end0 | (refine bodyPost_ret (results_none rfl _ _ _) rfl ?_)
  exact ⟨⟨_, rfl⟩, HU4.out, HF4.out⟩
end Go.Proofs.YtlelgbmbmajfmaaGreatDoor

namespace Go.Proofs.YtlelgbmbmajfmaaGreatDoor
open Go.RowKit Go.Shelf Go.Lib
attribute [local go_sem] Oper.semAt_some
theorem index_first (x0 x1 x2 x3 : Int) (r : List Value) (_ : r.length = 24) (W : World) : (Instr.index 199 (.agg (([Value.int .u64 x0, Value.int .u64 x1, Value.int .u64 x2, Value.int .u64 x3] : List Value) ++ r).toArray) (.int .i64 0)).run Tryz.prog W = .ok (.agg #[.int .u64 x0, .int .u64 x1, .int .u64 x2, .int .u64 x3]) W := by
  obtain ⟨i, hi⟩ := Option.isSome_iff_exists.1 (show (Tryz.prog.info? 24).isSome = true by kernel_rfl)
  have hs : i.size = 4 := by have h := infoW; rw [hi] at h; simpa using h
  simp [Instr.index, run_underlying Tryz.underlying199, asIntOf, Go.part, sizeOf, typeInfo, hi, hs, Result.andThen]
set_option maxRecDepth 100000 in
set_option maxHeartbeats 6400000 in
theorem flow_stop (p : Nat) (f : FrE) (D : List UInt8) (w : World) (h : Fra p w f) (h63 : f.stkL.length ≤ 1099511627776)  :
    Calls Tryz.prog 106 #[.pointer (some ⟨p, 0, none⟩), .int .u8 0, .string ⟨D.toArray⟩] w fun e w' => (∃ v, e = .returned v) ∧ Upf p w f w' (endE f 0 []) ∧ Fra p w' (endE f 0 []) := by
  have HF := Lib.hid h
  have hlt := h.lt
  obtain ⟨sp, sc, hstk⟩ := h.2.form
  obtain ⟨N, hN⟩ : ∃ N, f.stkL.length = N := ⟨_, rfl⟩
  rw [hN] at hstk
  have y1 := h.at 17 rfl
  rw [hstk] at y1
  have kN : IntKind.i64.wrap ((N : Int) - 1) = (N : Int) - 1 := by rw [IntKind.wrap_i64]; omega
  have HSTK := Lib.hid hstk
  have HNN := Lib.hid hN
  clear h hstk
  clear hN
  go_enter Tryz.func106, Tryz.ntmps106
  go_wp2_with fail
  refine (end_any p f 0 [] _ HF.out).mono ?_
  rintro e w2 ⟨rfl, hu2, hf2⟩
  have HU2 := Lib.hid hu2
  have HF2 := Lib.hid hf2
  clear hu2 hf2
  go_wp2_with fail
  go_end0
  exact ⟨⟨_, rfl⟩, HU2.out, HF2.out⟩
set_option maxRecDepth 100000 in
set_option maxHeartbeats 6400000 in
theorem flow_dest (p : Nat) (f : FrE) (D : List UInt8) (w : World) (h : Fra p w f) (h63 : f.stkL.length ≤ 1099511627776)  :
    Calls Tryz.prog 106 #[.pointer (some ⟨p, 0, none⟩), .int .u8 91, .string ⟨D.toArray⟩] w fun e w' => (∃ v, e = .returned v) ∧ Upf p w f w' (f) ∧ Fra p w' (f) := by
  have HF := Lib.hid h
  have hlt := h.lt
  obtain ⟨sp, sc, hstk⟩ := h.2.form
  obtain ⟨N, hN⟩ : ∃ N, f.stkL.length = N := ⟨_, rfl⟩
  rw [hN] at hstk
  have y1 := h.at 17 rfl
  rw [hstk] at y1
  have kN : IntKind.i64.wrap ((N : Int) - 1) = (N : Int) - 1 := by rw [IntKind.wrap_i64]; omega
  have HSTK := Lib.hid hstk
  have HNN := Lib.hid hN
  clear h hstk
  clear hN
  go_enter Tryz.func106, Tryz.ntmps106
  go_wp2_with fail
  go_end0
  exact ⟨⟨_, rfl⟩, Upf.refl _ _ _, HF.out⟩
set_option maxRecDepth 100000 in
set_option maxHeartbeats 6400000 in
theorem flow_give (p : Nat) (f : FrE) (D : List UInt8) (w : World) (h : Fra p w f) (h63 : f.stkL.length ≤ 1099511627776) (hml : 2 ≤ f.stkL.length) (hg : f.gas < 18446744073709551616) (hm : f.mem.length ≤ 131072) (hw : ∀ v ∈ f.stkL, v < 256 ^ 32) :
    Calls Tryz.prog 106 #[.pointer (some ⟨p, 0, none⟩), .int .u8 243, .string ⟨D.toArray⟩] w fun e w' => (∃ v, e = .returned v) ∧ Upf p w f w' (giveF f 0) ∧ Fra p w' (giveF f 0) := by
  have HF := Lib.hid h
  have hlt := h.lt
  obtain ⟨sp, sc, hstk⟩ := h.2.form
  obtain ⟨N, hN⟩ : ∃ N, f.stkL.length = N := ⟨_, rfl⟩
  rw [hN] at hstk
  have y1 := h.at 17 rfl
  rw [hstk] at y1
  have kN : IntKind.i64.wrap ((N : Int) - 1) = (N : Int) - 1 := by rw [IntKind.wrap_i64]; omega
  have HSTK := Lib.hid hstk
  have HNN := Lib.hid hN
  clear h hstk
  have HG := Lib.hid (fun W (hF : Fra p W f) => give_any p f 0 W hF hml h63 hg hm hw)
  clear hN hml hw
  go_enter Tryz.func106, Tryz.ntmps106
  go_wp2_with fail
  refine (HG.out _ HF.out).mono ?_
  rintro e w2 ⟨⟨v2, rfl⟩, hu2, hf2⟩
  have HU2 := Lib.hid hu2
  have HF2 := Lib.hid hf2
  clear hu2 hf2
  go_wp2_with fail
  go_end0
  exact ⟨⟨_, rfl⟩, HU2.out, HF2.out⟩
set_option maxRecDepth 100000 in
set_option maxHeartbeats 6400000 in
theorem flow_push (p : Nat) (f : FrE) (D : List UInt8) (w : World) (h : Fra p w f) (h63 : f.stkL.length ≤ 1099511627776) (op : UInt8) (h1 : 0x5f ≤ op.toNat) (h2 : op.toNat ≤ 0x7f) (hD : D.length ≤ 1099511627776) :
    Calls Tryz.prog 106 #[.pointer (some ⟨p, 0, none⟩), .int .u8 op.toNat, .string ⟨D.toArray⟩] w fun e w' => (∃ v, e = .returned v) ∧ ∃ v, Upf p w f w' (pushF f v (wordOf D)) ∧ Fra p w' (pushF f v (wordOf D)) := by
  have HF := Lib.hid h
  have hlt := h.lt
  obtain ⟨sp, sc, hstk⟩ := h.2.form
  obtain ⟨N, hN⟩ : ∃ N, f.stkL.length = N := ⟨_, rfl⟩
  rw [hN] at hstk
  have y1 := h.at 17 rfl
  rw [hstk] at y1
  have kN : IntKind.i64.wrap ((N : Int) - 1) = (N : Int) - 1 := by rw [IntKind.wrap_i64]; omega
  have HSTK := Lib.hid hstk
  have HNN := Lib.hid hN
  clear h hstk
  obtain ⟨n, hn⟩ : ∃ n, op.toNat = n := ⟨_, rfl⟩
  rw [hn] at h1 h2 ⊢
  have k0 : ¬ ((n : Int) = 0) := by omega
  have k1 : ¬ ((n : Int) = 80) := by omega
  have k2 : ¬ ((n : Int) = 86) := by omega
  have k3 : ¬ ((n : Int) = 87) := by omega
  have k4 : ¬ ((n : Int) = 91) := by omega
  have k5 : (95 : Int) ≤ n := by omega
  have k6 : (n : Int) ≤ 127 := by omega
  have k7 : (n : Int).tmod 16 = ((n % 16 : Nat) : Int) := by rw [Int.tmod_eq_emod_of_nonneg (by omega)]; omega
  have k8 : IntKind.u8.wrap ((n % 16 : Nat) : Int) = ((n % 16 : Nat) : Int) := by rw [IntKind.wrap_u8]; omega
  have k9 : IntKind.i64.wrap ((n % 16 : Nat) : Int) = ((n % 16 : Nat) : Int) := by rw [IntKind.wrap_i64]; omega
  have HWF := Lib.hid (fun W => wordFrom_any ⟨D.toArray⟩ W hD)
  unfold wordV at HWF
  rw [show (⟨D.toArray⟩ : ByteArray).data.toList = D from rfl] at HWF
  have HPU := Lib.hid (fun W (hF : Fra p W f) => push_any p f (wordOf D) W hF h63)
  unfold wordV at HPU
  clear hN hn
  go_enter Tryz.func106, Tryz.ntmps106
  go_wp2_with fail
  refine (HWF.out _).mono ?_
  rintro e w1 ⟨rfl, hb1⟩
  have HB1 := Lib.hid hb1
  clear hb1
  go_wp2_with fail
  refine (HPU.out _ (HF.out.after HB1.out)).mono ?_
  rintro e w2 ⟨⟨v2, rfl⟩, v3, hu2, hf2⟩
  have HU2 := Lib.hid (((Upf.refl p w f).next (Nat.le_of_lt hlt) HB1.out).trans hu2)
  have HF2 := Lib.hid hf2
  clear hu2 hf2
  go_wp2_with fail
  go_end0
  exact ⟨⟨_, rfl⟩, v3, HU2.out, HF2.out⟩
set_option maxRecDepth 100000 in
set_option maxHeartbeats 6400000 in
theorem flow_jump (p : Nat) (f : FrE) (D : List UInt8) (w : World) (h : Fra p w f) (h63 : f.stkL.length ≤ 1099511627776) (v i : Nat) (js : List Nat) (hml : 1 ≤ f.stkL.length) (ht : topT f 0 = v) (hto : IntsAt w f.tos js p) (hs : js.Pairwise (· < ·)) (hi : js[i]? = some v) (hv : v ≤ 1099511627776) (hjl : js.length ≤ 1099511627776) :
    Calls Tryz.prog 106 #[.pointer (some ⟨p, 0, none⟩), .int .u8 86, .string ⟨D.toArray⟩] w fun e w' => (∃ v, e = .returned v) ∧ Upf p w f w' (nextF (popF f 1) v) ∧ Fra p w' (nextF (popF f 1) v) := by
  have HF := Lib.hid h
  have hlt := h.lt
  obtain ⟨sp, sc, hstk⟩ := h.2.form
  obtain ⟨N, hN⟩ : ∃ N, f.stkL.length = N := ⟨_, rfl⟩
  rw [hN] at hstk
  have y1 := h.at 17 rfl
  rw [hstk] at y1
  have kN : IntKind.i64.wrap ((N : Int) - 1) = (N : Int) - 1 := by rw [IntKind.wrap_i64]; omega
  have HSTK := Lib.hid hstk
  have HNN := Lib.hid hN
  clear h hstk
  have HTK := Lib.hid (fun W (hF : Fra p W f) => take_any p f 1 W hF (by decide) hml h63)
  have HJ := Lib.hid (fun W (hF : Fra p W (popF f 1)) (hb : Below p w W) => jump_found p (popF f 1) v i js W hF (hto.below hb) hs hi hv hjl)
  have hsev : sevC f 1 = [.int .u64 (limb v 0), .int .u64 (limb v 1), .int .u64 (limb v 2), .int .u64 (limb v 3), .int .u64 0, .int .u64 0, .int .u64 0, .int .u64 0, .int .u64 0, .int .u64 0, .int .u64 0, .int .u64 0, .int .u64 0, .int .u64 0, .int .u64 0, .int .u64 0, .int .u64 0, .int .u64 0, .int .u64 0, .int .u64 0, .int .u64 0, .int .u64 0, .int .u64 0, .int .u64 0, .int .u64 0, .int .u64 0, .int .u64 0, .int .u64 0] := by
    have h0 : sevW f 1 = [v, 0, 0, 0, 0, 0, 0] := by rw [← ht]; rfl
    unfold sevC
    rw [h0]
    simp only [wordCells, List.flatMap_cons, List.flatMap_nil, List.append_nil, limb_nought]
    rfl
  rw [hsev] at HTK
  have hix : ∀ W, (Instr.index 199 (.agg #[.int .u64 (limb v 0), .int .u64 (limb v 1), .int .u64 (limb v 2), .int .u64 (limb v 3), .int .u64 0, .int .u64 0, .int .u64 0, .int .u64 0, .int .u64 0, .int .u64 0, .int .u64 0, .int .u64 0, .int .u64 0, .int .u64 0, .int .u64 0, .int .u64 0, .int .u64 0, .int .u64 0, .int .u64 0, .int .u64 0, .int .u64 0, .int .u64 0, .int .u64 0, .int .u64 0, .int .u64 0, .int .u64 0, .int .u64 0, .int .u64 0]) (.int .i64 0)).run Tryz.prog W = .ok (.agg #[.int .u64 (limb v 0), .int .u64 (limb v 1), .int .u64 (limb v 2), .int .u64 (limb v 3)]) W := fun W => index_first (limb v 0) (limb v 1) (limb v 2) (limb v 3) [.int .u64 0, .int .u64 0, .int .u64 0, .int .u64 0, .int .u64 0, .int .u64 0, .int .u64 0, .int .u64 0, .int .u64 0, .int .u64 0, .int .u64 0, .int .u64 0, .int .u64 0, .int .u64 0, .int .u64 0, .int .u64 0, .int .u64 0, .int .u64 0, .int .u64 0, .int .u64 0, .int .u64 0, .int .u64 0, .int .u64 0, .int .u64 0] rfl W
  clear hN hml ht hto hs hi hv hjl hsev
  go_enter Tryz.func106, Tryz.ntmps106
  go_wp2_with fail
  refine (HTK.out _ HF.out).mono ?_
  rintro e w1 ⟨rfl, hu1, hf1⟩
  have HU1 := Lib.hid hu1
  have HF1 := Lib.hid hf1
  clear hu1 hf1
  go_wp2_with fail

  refine (HJ.out _ HF1.out HU1.out.below).mono ?_
  rintro e w2 ⟨⟨v2, rfl⟩, hu2, hf2⟩
  have HU2 := Lib.hid (HU1.out.trans hu2)
  have HF2 := Lib.hid hf2
  clear hu2 hf2
  go_wp2_with fail
  go_end0
  exact ⟨⟨_, rfl⟩, HU2.out, HF2.out⟩
end Go.Proofs.YtlelgbmbmajfmaaGreatDoor
