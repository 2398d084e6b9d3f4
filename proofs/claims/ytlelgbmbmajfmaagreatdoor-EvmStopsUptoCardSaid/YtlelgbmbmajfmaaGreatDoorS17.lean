/- What the walks take: EvmT, EvmK. -/
import Derived.Test.YtlelgbmbmajfmaaGreatDoorS12
import Derived.Test.YtlelgbmbmajfmaaGreatDoorS13
import Derived.Test.YtlelgbmbmajfmaaGreatDoorS15
import Derived.Test.YtlelgbmbmajfmaaGreatDoorS16
import Derived.Deep.MidRow
import Derived.OwnWalkIn
import Derived.LoopNIn
import Derived.LoopIn
namespace Go.Proofs.YtlelgbmbmajfmaaGreatDoor
open Go.RowKit Go.Shelf Go.Lib
attribute [local go_sem] Oper.semAt_some
theorem infoW : (Tryz.prog.info? 24).map (·.size) = some 4 := by kernel_rfl
/-- a word that lies at a place -/
def W4 (W : World) (g o v : Nat) : Prop := W.rangeAt g o [.int .u64 (limb v 0), .int .u64 (limb v 1), .int .u64 (limb v 2), .int .u64 (limb v 3)]
theorem W4.new (w : World) (v : Nat) (t : TypeId) : W4 (w.alloc (.cells #[.int .u64 (limb v 0), .int .u64 (limb v 1), .int .u64 (limb v 2), .int .u64 (limb v 3)] t)) w.heap.size 0 v := (HasCells.new w _ t).range
theorem W4.kept {W W' : World} {g o v : Nat} (h : W4 W g o v) (hb : W'.heap[g]? = W.heap[g]?) : W4 W' g o v := fun j u hj => (World.cell?_of_block (a := ⟨g, o + j, none⟩) hb).trans (h j u hj)
theorem W4.after {W W' : World} {g o v : Nat} (h : W4 W g o v) (hb : Below W.heap.size W W') : W4 W' g o v := h.kept (hb.block g (World.block_lt_of_cell? W ⟨g, o + 0, none⟩ (h 0 _ rfl)))
theorem run_loadW {o : Oper} {a : Act} {w : World} {x : Operand} (ho : o.op = .load 24 x) {g b v : Nat} (hx : a.eval x = .pointer (some ⟨g, b, none⟩)) (h : W4 w g b v) : (execOp a.eval o).run Tryz.prog w = .ok (.value (.agg #[.int .u64 (limb v 0), .int .u64 (limb v 1), .int .u64 (limb v 2), .int .u64 (limb v 3)])) w := by
  simp only [execOp, ho, hx, Instr.loadAt, Instr.sureAddr, Sem.run_bind, Sem.run_pure, Result.andThen_ok, run_loadVar_mid w g b _ _ _ h Tryz.underlying24 rfl infoW]
theorem news_at {w : World} {g v : Nat} (h : W4 w g 0 v) : ∀ j u, (wordCells [v])[j]? = some u → w.cell? ((⟨g, 0, none⟩ : Addr).add j) = some u := fun j u hj => by
  rw [show ((⟨g, 0, none⟩ : Addr).add j) = ⟨g, 0 + j, none⟩ from by cases j <;> simp [Addr.add]]
  exact h j u hj
theorem step_appendW {ops : Array Oper} {o : Oper} {a : Act} {w : World} {K : Act → World → Prop} {Q : Exit → Act → World → Prop} {E : Prop} (hw : Region.wanted o (yielded ops a.tmps) = true) (s x : Operand)
    (ho : o.op = .call { callee := .builtin .append, args := #[s, x], argTypes := #[148, 148] })
    (base : Nat) (v : Value) (l : List Nat) (hs : a.eval s = v) (hown : OwnW base w v l) (ad : Addr) (c : Nat) (q : Nat) (hx : a.eval x = .slice (some ad) 1 c)
    (hnews : ∀ j u, (wordCells [q])[j]? = some u → w.cell? (ad.add j) = some u) (h63 : l.length ≤ 1099511627776) (hbase : base ≤ w.heap.size)
    (hK : ∀ v' w', OwnW base w' v' (l ++ [q]) → w.grownBy w' v.ownBlock → (v'.ownBlock = v.ownBlock ∨ v'.ownBlock = some w.heap.size) → K (a.put o.dst v') w') : if Region.wanted o (yielded ops a.tmps) = true then Oper.wp Tryz.prog o a w K Q else E := by
  rw [if_pos hw]
  obtain ⟨v', w', hrun, r1, r2, r3⟩ := run_appendW hown ad c q hnews h63 hbase o.type
  unfold Oper.wp
  simp [execOp, ho, resolve, invoke, builtin, hs, hx, hrun, Result.andThen]
  exact hK v' w' r1 r2 r3
set_option maxRecDepth 100000 in
set_option maxHeartbeats 6400000 in
theorem push_any (p : Nat) (f : FrE) (x : Nat) (w : World) (h : Fra p w f) (hl : f.stkL.length ≤ 1099511627776) : Calls Tryz.prog 101 #[.pointer (some ⟨p, 0, none⟩), wordV x] w fun e w' => (∃ v, e = .returned v) ∧ ∃ v, Upf p w f w' (pushF f v x) ∧ Fra p w' (pushF f v x) := by
  have hlt := h.lt
  have H := Lib.hid h
  have hX := W4.new w x 24
  have HL := Lib.hid (h.after (laid1 w (.cells #[.int .u64 (limb x 0), .int .u64 (limb x 1), .int .u64 (limb x 2), .int .u64 (limb x 3)] 24)))
  have HSF := Lib.hid (And.intro (HL.out.at 17 rfl) hX)
  clear h hX
  go_enter Tryz.func101, Tryz.ntmps101
  unfold wordV
  go_wp2_with fail
  refine wp_region_L (fun Ls w' => Ls.getD 10 true = false → w'.cell? ⟨p, 17, none⟩ = some f.stk ∧ W4 w' w.heap.size 0 x) (by kernel_rfl) ?_
  refine lT 0 10 HSF.out ?_
  refine lT 1 9 HSF.out ?_
  refine lT 2 8 HSF.out ?_
  refine lT 3 7 HSF.out ?_
  refine lD 4 6 HSF.out ?_
  refine lU 5 5 HSF.out ?_ (hy := fun w0 hSw => run_loadW rfl rfl hSw.2)
  have HSB := Lib.hid (HL.out.after (laid1 _ (.cells #[.int .u64 (limb x 0), .int .u64 (limb x 1), .int .u64 (limb x 2), .int .u64 (limb x 3)] 24)))
  have hxb := W4.new (w.alloc (.cells #[.int .u64 (limb x 0), .int .u64 (limb x 1), .int .u64 (limb x 2), .int .u64 (limb x 3)] 24)) x 24
  rw [World.size_alloc] at hxb
  have HXB := Lib.hid hxb
  clear hxb
  have HXA := Lib.hid (HSF.out.2.after (laid1 _ (.cells #[.int .u64 (limb x 0), .int .u64 (limb x 1), .int .u64 (limb x 2), .int .u64 (limb x 3)] 24)))
  refine wpAnyL_one (i := 6) (fuel := 4) (by kernel_rfl) rfl (fun K hK => ?_)
  go_simp
  refine hK.out _ _ (fun h => ⟨HSB.out.at 17 rfl, HXA.out⟩) (fun _ => ?_)
  clear hK K
  try simp only [Act.put, zq]
  have hsz : ∀ a b : Obj, ((w.alloc a).alloc b).drew.heap.size = w.heap.size + 2 := fun a b => by show ((w.alloc a).alloc b).heap.size = _; simp only [World.size_alloc]
  refine wpAnyL_one (i := 7) (fuel := 3) (by kernel_rfl) rfl (fun K hK => ?_)
  refine step_appendW (by rfl) _ _ rfl (p + 1) f.stk f.stkL rfl HSB.out.2 ⟨w.heap.size + 1, 0, none⟩ 1 x rfl (news_at HXB.out) hl (by rw [hsz]; omega) (fun v2 w2 ho hg hv => ?_)
  obtain ⟨pa, cv, hv2⟩ := ho.form
  rw [List.length_append, List.length_singleton] at hv2
  subst hv2
  have hne : ∀ k, f.stk.ownBlock = some k → p < k ∧ k < w.heap.size := fun k e => H.out.2.lt k e
  have hp2 : HasCells w2 p (cellsF f) 150 := HSB.out.1.kept (hg.block p (by rw [hsz]; omega) (fun e => by have := (hne p e.symm).1; omega))
  have hx2 : W4 w2 w.heap.size 0 x := HXA.out.kept (hg.block _ (by rw [hsz]; omega) (fun e => by have := (hne _ e.symm).2; omega))
  have hb2 : ∀ g : FrE, g.stk = .slice pa (f.stkL.length + 1) cv → Upf p w f w2 g := fun g hgs => ⟨(((Below.refl p w).alloc (Nat.le_of_lt hlt) _).alloc (by simp only [World.size_alloc]; omega) _).drew.trans ⟨hg.os, hg.tape, hg.output, hg.size, fun k hk => hg.block k (by rw [hsz]; omega) (fun e => by have := (hne k e.symm).1; omega)⟩, fun k hk hnp hf => (hg.block k (by rw [hsz]; omega) (fun e => hf e.symm)).trans ((laid2 w _ _).block k hk), fun k e => by rw [hgs] at e; rcases hv with hv | hv; exact .inl (hv ▸ e); (rw [hv, hsz] at e; cases e; exact .inr (by omega))⟩
  have HP2 := Lib.hid hp2
  have HX2 := Lib.hid hx2
  have HO2 := Lib.hid ho
  have HBB2 := Lib.hid hb2
  clear hp2 hx2 ho hg hv hne hb2 hsz
  refine hK.out _ _ (fun h => ⟨HP2.out.cell rfl, HX2.out⟩) (fun _ => ?_)
  clear hK K
  try simp only [Act.put, zq]
  refine lT 8 2 (And.intro (HP2.out.cell (j := 17) rfl) HX2.out) ?_
  refine lT 9 1 (And.intro (HP2.out.cell (j := 17) rfl) HX2.out) ?_
  have y1 := HP2.out.cell (j := 17) rfl
  have y2 := HP2.out.frozen 17
  refine wpAnyL_one (i := 10) (fuel := 0) (by kernel_rfl) rfl (fun K hK => ?_)
  go_simp
  refine hK.out _ _ (fun h => (by cases h)) (fun _ => ?_)
  clear hK K
  try simp only [Act.put, zq]
  refine wpAnyL_done (by kernel_rfl) ?_ 0
  go_wp2
  go_end0
  refine ⟨⟨_, rfl⟩, _, (HBB2.out (pushF f (.slice pa (f.stkL.length + 1) cv) x) rfl).set 17 _ rfl, HP2.out.set 17 _, ?_⟩
  refine HO2.out.of_block fun k e => Below.heap_setCell w2 ⟨p, 17, none⟩ _ k (fun e2 => by have := (HO2.out.lt k e).1; simp at e2; omega)
end Go.Proofs.YtlelgbmbmajfmaaGreatDoor

namespace Go.Proofs.YtlelgbmbmajfmaaGreatDoor
open Go.RowKit Go.Shelf Go.Lib
attribute [local go_sem] Oper.semAt_some
/-- what the iterator tells: a place, a word -/
abbrev ElT := Nat × Nat
def encT (x : ElT) : Array Value := #[.int .i64 x.1, .agg #[.int .u64 (limb x.2 0), .int .u64 (limb x.2 1), .int .u64 (limb x.2 2), .int .u64 (limb x.2 3)]]
def StepT (p : Nat) (A B : World) : Prop := A.grownBy B (some p)
def KeepS (S : Nat → Prop) (A B : World) : Prop := A.heap.size ≤ B.heap.size ∧ ∀ g, S g → B.heap[g]? = A.heap[g]?
theorem KeepS.trans {S : Nat → Prop} {A B C : World} (h : KeepS S A B) (k : KeepS S B C) : KeepS S A C := ⟨Nat.le_trans h.1 k.1, fun g hg => (k.2 g hg).trans (h.2 g hg)⟩
def sliceTo : Value → Nat → Value
  | .slice a _ c, m => .slice a m c
  | v, _ => v
theorem StepT.below {p : Nat} {A B : World} (h : Below A.heap.size A B) : StepT p A B := ⟨h.os, h.tape, h.output, h.size, fun k hk _ => h.block k hk⟩
theorem oneW (v : Nat) : (#[.int .u64 (limb v 0), .int .u64 (limb v 1), .int .u64 (limb v 2), .int .u64 (limb v 3)] : Array Value).all (·.oneCell') = true := by simp [Value.oneCell']
theorem W4.zero {W : World} {g v : Nat} (h : W4 W g 0 v) : W.cell? ⟨g, 0, none⟩ = some (.int .u64 (limb v 0)) ∧ W.cell? ⟨g, 1, none⟩ = some (.int .u64 (limb v 1)) ∧ W.cell? ⟨g, 2, none⟩ = some (.int .u64 (limb v 2)) ∧ W.cell? ⟨g, 3, none⟩ = some (.int .u64 (limb v 3)) := by
  have h0 := h 0 _ rfl
  have h1 := h 1 _ rfl
  have h2 := h 2 _ rfl
  have h3 := h 3 _ rfl
  simp only [Nat.zero_add] at h0 h1 h2 h3
  exact ⟨h0, h1, h2, h3⟩
/-- some words are taken off -/
def popF (f : FrE) (k : Nat) : FrE := { f with stk := sliceTo f.stk (f.stkL.length - k), stkL := f.stkL.take (f.stkL.length - k) }
def topT (f : FrE) (k : Nat) : Nat := f.stkL.getD (f.stkL.length - 1 - k) 0
def popsT (f : FrE) (m : Nat) : List ElT := (List.range m).map fun i => (i, topT f i)
theorem popsT_length (f : FrE) (m : Nat) : (popsT f m).length = m := by simp [popsT]
theorem popsT_succ (f : FrE) (m : Nat) : popsT f (m + 1) = popsT f m ++ [(m, topT f m)] := by simp [popsT, List.range_succ]
def GoodT (f : FrE) (m : Nat) (pre : List ElT) (x : ElT) (_ _ : World) : Prop := pre.length < m ∧ pre = popsT f pre.length ∧ x = (pre.length, topT f pre.length)
theorem Fra.popZ {p : Nat} {w : World} {f : FrE} (h : Fra p w f) : Fra p w (popF f 0) := by
  obtain ⟨h1, h2⟩ := h
  obtain ⟨a, c, hf⟩ := h2.form
  have e1 : sliceTo f.stk (f.stkL.length - 0) = f.stk := by rw [hf]; rfl
  have e2 : f.stkL.take (f.stkL.length - 0) = f.stkL := by simp
  have e : popF f 0 = f := by unfold popF; rw [e1, e2]
  rw [e]; exact ⟨h1, h2⟩
theorem taken_any (F : Fence) (n : Nat) (hf : F.fn 151) (hro : F.round = none) (p : Nat) (m : Nat) (w : World) :
    CallsIn F n Tryz.prog 151 #[.pointer (some ⟨p, 0, none⟩), .int .i64 m] w fun e w' => e = .returned (.func (.func 181) #[] #[.pointer (some ⟨w.heap.size + 1, 0, none⟩), .pointer (some ⟨w.heap.size, 0, none⟩)]) ∧
      w' = (w.alloc (.cells #[.pointer (some ⟨p, 0, none⟩)] 145)).alloc (.cells #[.int .i64 m] 3) := by
  refine callsIn_of_wp Tryz.func151 rfl hf ?_ hro
  simp only [Tryz.ntmps151, List.size_toArray, List.length_cons, List.length_nil, Nat.reduceAdd, Nat.reduceSub, Array.replicate_succ, Array.replicate_zero, List.push_toArray, List.append_toArray, List.nil_append, List.cons_append]
  gi_wp2
  go_ret
  exact ⟨rfl, rfl⟩
set_option maxRecDepth 100000 in
set_option maxHeartbeats 6400000 in
theorem taken_body (n : Nat) (hn : 1 ≤ n) (l Bn p : Nat) (f : FrE) (m : Nat) (hm : m ≤ f.stkL.length) (h63 : f.stkL.length ≤ 1099511627776) (S : Nat → Prop) (hSp : S p) (hSb : S Bn) (hSk : ∀ k, f.stk.ownBlock = some k → S k) (J Jx : List ElT → World → Prop)
    (hJs : ∀ s A B, J s A → StepT p A B → J s B)
    (hY : ∀ pre x W0 W1, J pre W0 → StepT p W0 W1 → GoodT f m pre x W0 W1 → YieldAt Fence.wide (n - 1) Tryz.prog l (encT x) W1 fun e W' =>
      (e = .returned (.bool true) ∧ J (pre ++ [x]) W' ∧ KeepS S W1 W') ∨ (e = .returned (.bool false) ∧ Jx (pre ++ [x]) W'))
    (W : World) (hb1 : HasCells W (Bn + 1) [.int .i64 m] 3) (hb2 : HasCells W Bn [.pointer (some ⟨p, 0, none⟩)] 145) (hpb : p < Bn) (hF : Fra p W f) (h0 : J [] W) :
    CallsIn Fence.wide n Tryz.prog 181 #[.func (.yield l) #[] #[], .pointer (some ⟨Bn + 1, 0, none⟩), .pointer (some ⟨Bn, 0, none⟩)] W fun e W' => (∃ v, e = .returned v) ∧
      ((∃ xs, (xs = popsT f m ∧ Fra p W' (popF f m)) ∧ J xs W') ∨ (∃ pre, True ∧ Jx pre W')) := by
  have HJS := Lib.hid hJs
  have HSP := Lib.hid hSp
  have HSK := Lib.hid hSk
  have HSB := Lib.hid hSb
  have HF0 := Lib.hid hF
  have c1 := hb1.cell (j := 0) rfl
  have HB2 := Lib.hid hb2
  clear hJs hSp hSk hSb hF hb1 hb2
  refine callsIn_of_wp Tryz.func181 rfl trivial ?_ rfl
  simp only [Tryz.ntmps181, List.size_toArray, List.length_cons, List.length_nil, Nat.reduceAdd, Nat.reduceSub, Array.replicate_succ, Array.replicate_zero, List.push_toArray, List.append_toArray, List.nil_append, List.cons_append]
  gi_wp2
  clear c1
  gi_loopw [7] (fun iv wr => ∃ (k : Nat) (pre : List ElT), k ≤ m ∧ iv = .int .i64 k ∧ J pre wr ∧ Hid (pre = popsT f k) ∧ Hid (Fra p wr (popF f k)) ∧ Hid (HasCells wr Bn [.pointer (some ⟨p, 0, none⟩)] 145)) (fun iv wr => m - (RowKit.intOf iv).toNat)
  case atStart => exact ⟨0, [], Nat.zero_le _, rfl, h0, Lib.hid rfl, Lib.hid HF0.out.popZ, HB2⟩
  case round =>
    obtain ⟨k, pre, hk, rfl, hJ0, HREL, HFR, HBX⟩ := hrel
    have g1 : (0 : Int) ≤ k := by omega
    by_cases hlt : k < m
    · have g2 : (k : Int) < m := by omega
      obtain ⟨i, hi⟩ : ∃ i, f.stkL.length - k = i + 1 := ⟨f.stkL.length - k - 1, by omega⟩
      obtain ⟨g, c, hstk, hcap, hgl⟩ : ∃ g c, (popF f k).stk = .slice (some ⟨g, 0, none⟩) (i + 1) c ∧ i + 1 ≤ c ∧ p < g ∧ g < wr.heap.size := by
        obtain ⟨_, ⟨h1, h2⟩ | ⟨g, cap, cur, hv, hg, hh, h4, _⟩⟩ := HFR.out.2
        · have : (popF f k).stkL.length = i + 1 := by unfold popF; simp only [List.length_take]; omega
          omega
        · have e : (popF f k).stkL.length = i + 1 := by unfold popF; simp only [List.length_take]; omega
          rw [e] at hv h4
          exact ⟨g, cap, hv, h4, hg, (Array.getElem?_eq_some_iff.1 hh).1⟩
      obtain ⟨v, hv⟩ : ∃ v, topT f k = v := ⟨_, rfl⟩
      have HTV := Lib.hid hv
      have hlen : (popF f k).stkL.length = i + 1 := by unfold popF; simp only [List.length_take]; omega
      have hget : (popF f k).stkL[i]? = some v := by
        show (f.stkL.take (f.stkL.length - k))[i]? = some v
        rw [List.getElem?_take, if_pos (by omega), ← hv]
        unfold topT
        rw [show f.stkL.length - 1 - k = i from by omega, List.getD_eq_getElem?_getD, List.getElem?_eq_getElem (by omega)]
        rfl
      have hown : OwnW (p + 1) wr (.slice (some ⟨g, 0, none⟩) (i + 1) c) (popF f k).stkL := by rw [← hstk]; exact HFR.out.2
      have hw4 : W4 wr g (i * 4) v := fun j u hj => by
        have hj4 : j < 4 := (List.getElem?_eq_some_iff.1 hj).1
        have h1 := wordCells_at (popF f k).stkL i j v hget hj4
        have h2 := World.ownsRow.cellAt (by rw [← hlen] at hown; exact hown) (i * 4 + j) (by omega)
        rw [h2, h1]
        match j, hj4, hj with
        | 0, _, hj => exact hj
        | 1, _, hj => exact hj
        | 2, _, hj => exact hj
        | 3, _, hj => exact hj
      obtain ⟨fa, fc, hfs⟩ := HF0.out.2.form
      have hst1 : (popF f (k + 1)).stk = .slice (some ⟨g, 0, none⟩) i c := by
        have e1 : (popF f k).stk = .slice fa (f.stkL.length - k) fc := by unfold popF; rw [hfs]; rfl
        rw [e1] at hstk
        simp only [Value.slice.injEq] at hstk
        obtain ⟨rfl, -, rfl⟩ := hstk
        unfold popF
        rw [hfs, show f.stkL.length - (k + 1) = i from by omega]
        rfl
      have hsl1 : (popF f (k + 1)).stkL = (popF f k).stkL.take i := by
        unfold popF
        rw [List.take_take, show f.stkL.length - (k + 1) = i from by omega, Nat.min_eq_left (by omega)]
      have HCUT := Lib.hid (show ∀ W', OwnW (p + 1) W' (popF f k).stk (popF f k).stkL → OwnW (p + 1) W' (popF f (k + 1)).stk (popF f (k + 1)).stkL from fun W' hW => by
        rw [hst1, hsl1]
        rw [hstk] at hW
        exact hW.cut i (by rw [hlen]; omega))
      have HSQ := Lib.hid (show ∀ q, (popF f (k + 1)).stk.ownBlock = some q → S q from fun q hq => HSK.out q (by
        rw [hst1] at hq
        have e1 : (popF f k).stk = .slice fa (f.stkL.length - k) fc := by unfold popF; rw [hfs]; rfl
        rw [e1] at hstk
        simp only [Value.slice.injEq] at hstk
        obtain ⟨rfl, -, rfl⟩ := hstk
        rw [hfs]
        exact hq))
      have HST1 := Lib.hid hst1
      clear hst1 hsl1 hfs
      clear hget hown hv
      have c17 : wr.cell? ⟨p, 17, none⟩ = some (.slice (some ⟨g, 0, none⟩) (i + 1) c) := by rw [← hstk]; exact HFR.out.at 17 rfl
      have HS3 := Lib.hid (And.intro (HBX.out.cell (j := 0) rfl) (And.intro c17 hw4))
      have k1 : IntKind.i64.wrap ((i : Int) + 1 - 1) = (i : Int) := by rw [IntKind.wrap_i64]; omega
      have k0 : IntKind.i64.wrap (i : Int) = (i : Int) := by rw [IntKind.wrap_i64]; omega
      have k2 : (0 : Int) ≤ i := by omega
      have k3 : (i : Int) < (i : Int) + 1 := by omega
      have k4 : (i : Int) ≤ c := by omega
      clear hw4 c17
      gi_wp2
      refine wpIn_wide.2 ?_
      refine wp_region_held_drew (S := (fun W => W.cell? ⟨Bn, 0, none⟩ = some (.pointer (some ⟨p, 0, none⟩)) ∧ W.cell? ⟨p, 17, none⟩ = some (.slice (some ⟨g, 0, none⟩) (i + 1) c) ∧ W4 W g (i * 4) v)) (by kernel_rfl) (HS3.out) (fun hHeld => ?_)
      refine hD 0 ?_
      refine hT 1 ?_
      refine hT 2 ?_
      refine hD 3 ?_
      refine hD 4 ?_
      refine hT 5 ?_
      refine hT 6 ?_
      refine hD 7 ?_
      refine hT 8 ?_
      refine hT 9 ?_
      refine hT 10 ?_
      refine hU 11 ?_ (hy := fun w0 hSw => run_loadW rfl rfl hSw.2.2)
      refine wpAnyH_ready (rs := [12]) (by kernel_rfl) (by simp) ?_
      refine AllReadyH.cons rfl (fun K hK => ?_) AllReadyH.nil
      go_simp
      have hn1 := laid1 wr.drew (.cells #[.int .u64 0, .int .u64 0, .int .u64 0, .int .u64 0] 24)
      have HBX1 := Lib.hid (HasCells.after (W := wr.drew) HBX.out hn1)
      have HF1 := Lib.hid (Fra.after (w := wr.drew) HFR.out hn1)
      have HV1 := Lib.hid (W4.after (W := wr.drew) HS3.out.2.2 hn1)
      have HN1 := Lib.hid (HasCells.new wr.drew [.int .u64 0, .int .u64 0, .int .u64 0, .int .u64 0] 24)
      have HLD := Lib.hid hn1
      clear hn1
      refine hK.out _ _ (⟨HBX1.out.cell (j := 0) rfl, by rw [← hstk]; exact HF1.out.at 17 rfl, HV1.out⟩) (fun hHeld => ?_)
      clear hK K
      try simp only [Act.put, zq]
      refine wpAnyH_ready (rs := [13]) (by kernel_rfl) (by simp) ?_
      refine AllReadyH.cons rfl (fun K hK => ?_) AllReadyH.nil
      refine step_storeK (by rfl) 24 _ _ rfl wr.heap.size 0 #[.int .u64 (limb v 0), .int .u64 (limb v 1), .int .u64 (limb v 2), .int .u64 (limb v 3)] rfl rfl (HN1.out.there 0 4 (by decide)) infoW (oneW v) ?_
      obtain ⟨w3, hw3⟩ : ∃ W, ((wr.drew.alloc (.cells #[.int .u64 0, .int .u64 0, .int .u64 0, .int .u64 0] 24)).setCells wr.heap.size 0 [.int .u64 (limb v 0), .int .u64 (limb v 1), .int .u64 (limb v 2), .int .u64 (limb v 3)]) = W := ⟨_, rfl⟩
      have hoth : ∀ q, q ≠ wr.heap.size → w3.heap[q]? = (wr.drew.alloc (.cells #[.int .u64 0, .int .u64 0, .int .u64 0, .int .u64 0] 24)).heap[q]? := fun q hq => by rw [← hw3]; exact setCells_other hq _ _ _
      have hpl : p < wr.heap.size := HFR.out.lt
      have hbl : Bn < wr.heap.size := HBX.out.lt
      have HB3 := Lib.hid (HBX1.out.kept (hoth Bn (by omega)))
      have hsw : (wr.drew.alloc (.cells #[.int .u64 0, .int .u64 0, .int .u64 0, .int .u64 0] 24)).heap.size = wr.heap.size + 1 := by rw [World.size_alloc]; rfl
      have HF3 := Lib.hid (show Fra p w3 (popF f k) from ⟨HF1.out.1.kept (hoth p (by omega)), HF1.out.2.of_block fun q e => hoth q (by have := (HFR.out.2.lt q e).2; omega)⟩)
      have HV3 := Lib.hid (show W4 w3 wr.heap.size 0 v from by rw [← hw3]; exact (HN1.out.sets [.int .u64 (limb v 0), .int .u64 (limb v 1), .int .u64 (limb v 2), .int .u64 (limb v 3)] 0).range)
      have HW3 := Lib.hid (show W4 w3 g (i * 4) v from HV1.out.kept (hoth g (by have := hgl.1; omega)))
      have HST := Lib.hid (show Below wr.heap.size wr w3 from by rw [← hw3]; exact below_sets (Nat.le_refl _) _ _ _ ((Below.refl _ _).drew.trans HLD.out))
      show K _ ((wr.drew.alloc (.cells #[.int .u64 0, .int .u64 0, .int .u64 0, .int .u64 0] 24)).setCells wr.heap.size 0 [.int .u64 (limb v 0), .int .u64 (limb v 1), .int .u64 (limb v 2), .int .u64 (limb v 3)])
      rw [hw3]
      clear hw3 hoth hsw
      refine hK.out _ _ (⟨HB3.out.cell (j := 0) rfl, by rw [← hstk]; exact HF3.out.at 17 rfl, HW3.out⟩) (fun hHeld => ?_)
      clear hK K
      try simp only [Act.put, zq]
      refine wpAnyH_done (by kernel_rfl) ?_ 0
      gi_wp2
      refine wpIn_wide.2 ?_
      have HS4 := Lib.hid (show w3.drew.cell? ⟨Bn, 0, none⟩ = some (.pointer (some ⟨p, 0, none⟩)) ∧ w3.drew.cell? ⟨p, 17, none⟩ = some (.slice (some ⟨g, 0, none⟩) (i + 1) c) from ⟨HB3.out.cell (j := 0) rfl, by rw [← hstk]; exact HF3.out.at 17 rfl⟩)
      refine wp_region_L (fun Ls w' => Ls.getD 14 true = false → w'.cell? ⟨Bn, 0, none⟩ = some (.pointer (some ⟨p, 0, none⟩)) ∧ w'.cell? ⟨p, 17, none⟩ = some (.slice (some ⟨g, 0, none⟩) (i + 1) c)) (by kernel_rfl) ?_
      refine lD 0 14 HS4.out ?_
      refine lD 1 13 HS4.out ?_
      refine lT 2 12 HS4.out ?_
      refine lT 3 11 HS4.out ?_
      refine lD 4 10 HS4.out ?_
      refine lD 5 9 HS4.out ?_
      refine lT 6 8 HS4.out ?_
      refine lT 7 7 HS4.out ?_
      refine lD 8 6 HS4.out ?_
      refine lT 9 5 HS4.out ?_
      refine lT 10 4 HS4.out ?_
      refine lT 11 3 HS4.out ?_
      refine lT 12 2 HS4.out ?_
      refine lT 13 1 HS4.out ?_
      have y1 := HS4.out.2
      have y2 : w3.drew.frozen? ⟨p, 17, none⟩ = false := HF3.out.ice 17
      refine wpAnyL_one (i := 14) (fuel := 0) (by kernel_rfl) rfl (fun K hK => ?_)
      go_simp
      obtain ⟨w4, hw4⟩ : ∃ W, w3.drew.setCell ⟨p, 17, none⟩ (.slice (some ⟨g, 0, none⟩) i c) = W := ⟨_, rfl⟩
      show K _ (w3.drew.setCell ⟨p, 17, none⟩ (.slice (some ⟨g, 0, none⟩) i c))
      rw [hw4]
      have hoth4 : ∀ q, q ≠ p → w4.heap[q]? = w3.heap[q]? := fun q hq => by rw [← hw4]; exact Below.heap_setCell w3.drew ⟨p, 17, none⟩ _ q hq
      have hF4 : Fra p w4 (popF f (k + 1)) := ⟨by rw [← hw4]; have e := HF3.out.1.set 17 (.slice (some ⟨g, 0, none⟩) i c); rw [show (cellsF (popF f k)).set 17 (.slice (some ⟨g, 0, none⟩) i c) = cellsF (popF f (k + 1)) from by rw [← HST1.out]; rfl] at e; exact e, HCUT.out w4 (HF3.out.2.of_block fun q e => hoth4 q (by have := (HF3.out.2.lt q e).1; omega))⟩
      have HF4 := Lib.hid hF4
      have HB4 := Lib.hid (HB3.out.kept (hoth4 Bn (by omega)))
      have HV4 := Lib.hid (HV3.out.kept (hoth4 _ (by omega)))
      have HST4 := Lib.hid (show StepT p wr w4 from ⟨by rw [← hw4]; exact HST.out.os, by rw [← hw4]; exact HST.out.tape, by rw [← hw4]; exact HST.out.output, by rw [← hw4, World.size_setCell]; exact HST.out.size, fun q hq hne => (hoth4 q (fun e => hne (by rw [e]))).trans (HST.out.block q hq)⟩)
      clear hw4 hoth4 hF4 y1 y2
      refine hK.out _ _ (fun h => (by cases h)) (fun _ => ?_)
      clear hK K
      try simp only [Act.put, zq]
      refine wpAnyL_done (by kernel_rfl) ?_ 0
      have HGD := Lib.hid (show GoodT f m pre (k, v) wr w4 from ⟨by rw [HREL.out, popsT_length]; exact hlt, by rw [HREL.out, popsT_length], by rw [HREL.out, popsT_length, HTV.out]⟩)
      obtain ⟨f1, t1, a1, b1, hy1, hR1⟩ := hY pre (k, v) wr w4 hJ0 HST4.out HGD.out
      simp only [encT] at hy1
      have HR1 := Lib.hid hR1
      obtain ⟨z0, z1, z2, z3⟩ := HV4.out.zero
      clear hR1 hHeld
      gi_wp2_with fail
      refine HR1.out.mono ?_
      have HNX := Lib.hid (show pre ++ [(k, v)] = popsT f (k + 1) from by rw [popsT_succ, HREL.out, HTV.out])
      rintro e W1 (⟨rfl, hJ1, hk1⟩ | ⟨rfl, hx1⟩)
      · clear z0 z1 z2 z3
        gi_wp2
        go_roundw
        case rel => exact ⟨k + 1, pre ++ [(k, v)], by omega, by go_num, hJ1, HNX, Lib.hid ⟨HF4.out.1.kept (hk1.2 p HSP.out), HF4.out.2.of_block fun q e => hk1.2 q (HSQ.out q e)⟩, Lib.hid (HB4.out.kept (hk1.2 Bn HSB.out))⟩
        case measure => simp [RowKit.intOf]; omega
      · clear z0 z1 z2 z3
        gi_wp2
        refine bodyPost_ret (results_none rfl _ _ _) rfl ?_
        exact ⟨⟨_, rfl⟩, .inr ⟨_, trivial, hx1⟩⟩
    · have g2 : ¬ ((k : Int) < m) := by omega
      have hkm : k = m := by omega
      gi_wp2
      go_end0
      exact ⟨⟨_, rfl⟩, .inl ⟨pre, ⟨by rw [HREL.out, hkm], by rw [← hkm]; exact HFR.out⟩, hJ0⟩⟩
end Go.Proofs.YtlelgbmbmajfmaaGreatDoor
