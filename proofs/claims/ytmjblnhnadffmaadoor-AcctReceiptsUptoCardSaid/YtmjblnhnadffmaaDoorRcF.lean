/- Rows of logs that a call owns: append, what they read as. -/
import Derived.Test.YtmjblnhnadffmaaDoorRcB
import Derived.OrdersIn
namespace Go.Proofs.YtmjblnhnadffmaaDoor
open Go.RowKit Go.Shelf Go.Lib

/-- texts in blocks of which A holds -/
def StrsIn (w : World) (A : Nat → Prop) (v : Value) (xs : List ByteArray) : Prop :=
  ∃ p c, v = .slice p xs.length c ∧ xs.length ≤ c ∧ (xs = [] ∨ ∃ bk o, p = some ⟨bk, o, none⟩ ∧ A bk ∧ bk < w.heap.size ∧ ∀ (j : Nat) x, xs[j]? = some x → w.cell? ⟨bk, o + j, none⟩ = some (.string x))
theorem StrsIn.strs {w : World} {A : Nat → Prop} {v : Value} {xs : List ByteArray} (h : StrsIn w A v xs) : Strs w v xs := by
  obtain ⟨p, c, hv, hc, h⟩ := h
  refine ⟨p, c, hv, hc, ?_⟩
  rcases h with h | ⟨bk, o, h1, _, h2, h3⟩
  · exact .inl h
  · exact .inr ⟨bk, o, h1, h2, h3⟩
theorem StrsIn.kept {w w' : World} {A A' : Nat → Prop} {v : Value} {xs : List ByteArray} (h : StrsIn w A v xs) (hs : w.heap.size ≤ w'.heap.size) (hb : ∀ g, A g → g < w.heap.size → w'.heap[g]? = w.heap[g]?) (hA : ∀ g, A g → g < w.heap.size → A' g) : StrsIn w' A' v xs := by
  obtain ⟨p, c, hv, hc, h⟩ := h
  refine ⟨p, c, hv, hc, ?_⟩
  rcases h with h | ⟨bk, o, h1, h2, h3, h4⟩
  · exact .inl h
  · exact .inr ⟨bk, o, h1, hA bk h2 h3, Nat.lt_of_lt_of_le h3 hs, fun j x hx => (World.cell?_of_block (a := ⟨bk, o + j, none⟩) (hb bk h2 h3)).trans (h4 j x hx)⟩
theorem StrsIn.nil (w : World) (A : Nat → Prop) : StrsIn w A (.slice none 0 0) [] := ⟨none, 0, rfl, Nat.le_refl _, .inl rfl⟩
theorem StrsIn.form {w : World} {A : Nat → Prop} {v : Value} {xs : List ByteArray} (h : StrsIn w A v xs) : ∃ p c, v = .slice p xs.length c := by
  obtain ⟨p, c, hv, _⟩ := h
  exact ⟨p, c, hv⟩
theorem Strs.within {w : World} {v : Value} {xs : List ByteArray} {A : Nat → Prop} (h : Strs w v xs) (hA : ∀ j, v.ownBlock = some j → A j) : StrsIn w A v xs := by
  obtain ⟨p, c, hv, hc, h⟩ := h
  refine ⟨p, c, hv, hc, ?_⟩
  rcases h with h | ⟨bk, o, h1, h2, h3⟩
  · exact .inl h
  · subst hv; subst h1
    exact .inr ⟨bk, o, rfl, hA bk rfl, h2, h3⟩
/-- the cells of logs -/
def logCells (l : List (LogD × Value)) : List Value := l.flatMap fun q => [.string q.1.addr, q.2, .string q.1.data]
theorem logCells_length (l : List (LogD × Value)) : (logCells l).length = l.length * 3 := by
  induction l with
  | nil => rfl
  | cons q r ih => simp only [logCells, List.flatMap_cons, List.length_append] at *; rw [ih]; simp; omega
theorem logCells_append (l r : List (LogD × Value)) : logCells (l ++ r) = logCells l ++ logCells r := by simp [logCells]
theorem logCells_at (l : List (LogD × Value)) (i j : Nat) (q : LogD × Value) (h : l[i]? = some q) (hj : j < 3) : (logCells l)[i * 3 + j]? = [Value.string q.1.addr, q.2, .string q.1.data][j]? := by
  induction l generalizing i with
  | nil => cases h
  | cons a r ih =>
    cases i with
    | zero =>
      cases h
      simp only [logCells, List.flatMap_cons]
      rw [List.getElem?_append_left (by simp; omega)]
      congr 1
      omega
    | succ i =>
      have h' : r[i]? = some q := h
      have := ih i h'
      simp only [logCells, List.flatMap_cons] at *
      rw [List.getElem?_append_right (by simp; omega)]
      rw [show (i + 1) * 3 + j - [Value.string a.1.addr, a.2, .string a.1.data].length = i * 3 + j from by simp; omega]
      exact this
theorem infoLogC : (Tryd.prog.info? 64).map (fun i => (i.zero, i.size, i.bytes)) = some (some (.agg #[.string ⟨#[]⟩, .slice none 0 0, .string ⟨#[]⟩]), 3, 56) := by kernel_rfl
/-- a row of logs that the call owns -/
def OwnL (base : Nat) (w : World) (v : Value) (l : List (LogD × Value)) : Prop := w.ownsRow base 64 3 v l.length (logCells l)
theorem OwnL.nil (base : Nat) (w : World) : OwnL base w (.slice none 0 0) [] := World.ownsRow_nil _ _ _ _
theorem OwnL.lt {base : Nat} {w : World} {v : Value} {l : List (LogD × Value)} (h : OwnL base w v l) : ∀ k, v.ownBlock = some k → base ≤ k ∧ k < w.heap.size := World.ownsRow.lt h
theorem OwnL.form {base : Nat} {w : World} {v : Value} {l : List (LogD × Value)} (h : OwnL base w v l) : ∃ p c, v = .slice p l.length c := by
  obtain ⟨_, ⟨rfl, h0⟩ | ⟨g, cap, cur, rfl, _⟩⟩ := h
  · exact ⟨none, 0, by rw [h0]⟩
  · exact ⟨_, _, rfl⟩
theorem OwnL.of_block {base : Nat} {w w' : World} {v : Value} {l : List (LogD × Value)} (h : OwnL base w v l) (hb : ∀ k, v.ownBlock = some k → w'.heap[k]? = w.heap[k]?) : OwnL base w' v l := by
  obtain ⟨h1, h2⟩ := h
  refine ⟨h1, ?_⟩
  rcases h2 with h2 | ⟨g, cap, cur, hv, hg, hh, r⟩
  · exact .inl h2
  · exact .inr ⟨g, cap, cur, hv, hg, by rw [hb g (by rw [hv]; rfl)]; exact hh, r⟩
theorem run_appendL {base : Nat} {w : World} {v : Value} {l : List (LogD × Value)} (hown : OwnL base w v l) (ad : Addr) (c : Nat) (q : LogD × Value) (hq : ∃ p n c, q.2 = .slice p n c)
    (hnews : ∀ j u, (logCells [q])[j]? = some u → w.cell? (ad.add j) = some u) (h63 : l.length ≤ 1099511627776) (hbase : base ≤ w.heap.size) (ty : TypeId) :
    ∃ v' w', (Builtin.append_ #[36, 36] ty #[v, .slice (some ad) 1 c]).run Tryd.prog w = .ok v' w' ∧ OwnL base w' v' (l ++ [q]) ∧ w.grownBy w' v.ownBlock ∧ (v'.ownBlock = v.ownBlock ∨ v'.ownBlock = some w.heap.size) := by
  obtain ⟨i0, hi0, hz0, hz1, hz2⟩ := info_parts infoLogC
  obtain ⟨p, n, cq, hqv⟩ := hq
  obtain ⟨v', w', hr, h1, h2, _, h3⟩ := run_append_own_at (P := Tryd.prog) w base 36 ty 64 i0 _ 3 56 Tryd.underlying36 hi0 hz0 hz1 hz2 rfl (by omega) v l.length (logCells l) hown ad 1 c (logCells [q]) (by rw [logCells_length]; simp) hnews
    (fun u hu => by simp only [logCells, List.flatMap_cons, List.flatMap_nil, List.append_nil, List.mem_cons, List.not_mem_nil, or_false, hqv] at hu; rcases hu with rfl | rfl | rfl <;> rfl) (by unfold maxLen; omega) (by omega) hbase
  refine ⟨v', w', hr, ?_, h2, h3⟩
  unfold OwnL
  rw [logCells_append, List.length_append]
  exact h1
theorem wpList_appendL {ops : Array Oper} {rest : List Oper} {o : Oper} {a : Act} {w : World} {Q : Exit → Act → World → Prop} (hgd : o.guard = none) (s x : Operand)
    (ho : o.op = .call { callee := .builtin .append, args := #[s, x], argTypes := #[36, 36] })
    (base : Nat) (v : Value) (l : List (LogD × Value)) (hs : a.eval s = v) (hown : OwnL base w v l) (ad : Addr) (c : Nat) (q : LogD × Value) (hq : ∃ p n c, q.2 = .slice p n c) (hx : a.eval x = .slice (some ad) 1 c)
    (hnews : ∀ j u, (logCells [q])[j]? = some u → w.cell? (ad.add j) = some u) (h63 : l.length ≤ 1099511627776) (hbase : base ≤ w.heap.size)
    (hK : ∀ v' w', OwnL base w' v' (l ++ [q]) → w.grownBy w' v.ownBlock → (v'.ownBlock = v.ownBlock ∨ v'.ownBlock = some w.heap.size) → wpList Tryd.prog ops Q rest (a.put o.dst v') w') : wpList Tryd.prog ops Q (o :: rest) a w := by
  obtain ⟨v', w', hrun, r1, r2, r3⟩ := run_appendL hown ad c q hq hnews h63 hbase o.type
  refine wpList_plain hgd fun _ hK' => ?_
  unfold Oper.wp
  simp [execOp, ho, resolve, invoke, builtin, hs, hx, hrun, Result.andThen]
  exact hK' _ _ (hK v' w' r1 r2 r3)
/-- a row of logs that the call owns, whose topics lie in other blocks of its own -/
def RowL (B : Nat) (W : World) (v : Value) (l : List (LogD × Value)) : Prop := OwnL B W v l ∧ ∀ q ∈ l, StrsIn W (fun g => B ≤ g ∧ v.ownBlock ≠ some g) q.2 q.1.tops
theorem RowL.nil (B : Nat) (W : World) : RowL B W (.slice none 0 0) [] := ⟨OwnL.nil _ _, fun _ h => by cases h⟩
theorem RowL.form {B : Nat} {W : World} {v : Value} {l : List (LogD × Value)} (h : RowL B W v l) : ∃ p c, v = .slice p l.length c := h.1.form
theorem RowL.kept {B : Nat} {W W' : World} {v : Value} {l : List (LogD × Value)} (h : RowL B W v l) (hs : W.heap.size ≤ W'.heap.size) (hb : ∀ k, B ≤ k → k < W.heap.size → W'.heap[k]? = W.heap[k]?) : RowL B W' v l :=
  ⟨h.1.of_block (fun k e => hb k (h.1.lt k e).1 (h.1.lt k e).2), fun q hq => (h.2 q hq).kept hs (fun g hg hl => hb g hg.1 hl) (fun _ hg _ => hg)⟩
theorem RowL.after {B : Nat} {W W' : World} {v : Value} {l : List (LogD × Value)} (h : RowL B W v l) (hb : Below W.heap.size W W') : RowL B W' v l := h.kept hb.size (fun k _ hk => hb.block k hk)
theorem RowL.snoc {B : Nat} {W W' : World} {v v' : Value} {l : List (LogD × Value)} {q : LogD × Value} (h : RowL B W v l) (hrx : StrsIn W (fun g => B ≤ g ∧ v.ownBlock ≠ some g) q.2 q.1.tops)
    (hown : OwnL B W' v' (l ++ [q])) (hg : W.grownBy W' v.ownBlock) (hv : v'.ownBlock = v.ownBlock ∨ v'.ownBlock = some W.heap.size) : RowL B W' v' (l ++ [q]) := by
  have hA : ∀ {u : Value} {ys : List ByteArray}, StrsIn W (fun g => B ≤ g ∧ v.ownBlock ≠ some g) u ys → StrsIn W' (fun g => B ≤ g ∧ v'.ownBlock ≠ some g) u ys := fun hr =>
    hr.kept hg.size (fun g hg' hl => hg.block g hl (fun e => hg'.2 e.symm)) (fun g hg' hl => ⟨hg'.1, fun e => by
      rcases hv with hv | hv
      · exact hg'.2 (hv ▸ e)
      · rw [hv] at e; cases e; omega⟩)
  refine ⟨hown, fun q' hq => ?_⟩
  rcases List.mem_append.1 hq with hq | hq
  · exact hA (h.2 q' hq)
  · simp at hq; rw [hq]; exact hA hrx
theorem RowL.logs {B : Nat} {W : World} {v : Value} {l : List (LogD × Value)} (h : RowL B W v l) : Logs W v (l.map Prod.fst) := by
  have h1 := h.1
  obtain ⟨_, ⟨rfl, hn⟩ | ⟨g, cap, cur, rfl, hb, hg, hcap, _⟩⟩ := h1
  · obtain rfl : l = [] := List.length_eq_zero_iff.1 hn
    exact Logs.nil _
  · have hlen : (l.map Prod.fst).length = l.length := by simp
    refine ⟨some ⟨g, 0, none⟩, cap, by rw [hlen], by rw [hlen]; exact hcap, .inr ⟨g, 0, rfl, (Array.getElem?_eq_some_iff.1 hg).1, fun i x hx => ?_⟩⟩
    rw [List.getElem?_map] at hx
    cases hq : l[i]? with
    | none => rw [hq] at hx; cases hx
    | some q =>
      rw [hq] at hx
      cases hx
      have hi := (List.getElem?_eq_some_iff.1 hq).1
      have hc := fun j (hj : j < 3) => World.ownsRow.cellAt h.1 (i * 3 + j) (by omega)
      rw [Nat.zero_add]
      refine ⟨q.2, ?_, ?_, ?_, (h.2 q (List.mem_of_getElem? hq)).strs⟩
      · have := hc 0 (by omega); rw [logCells_at _ i 0 q hq (by omega)] at this; simpa using this
      · have := hc 1 (by omega); rw [logCells_at _ i 1 q hq (by omega)] at this; simpa using this
      · have := hc 2 (by omega); rw [logCells_at _ i 2 q hq (by omega)] at this; simpa using this
end Go.Proofs.YtmjblnhnadffmaaDoor
/- Contract of acct.logs and of its iterator. -/
namespace Go.Proofs.YtmjblnhnadffmaaDoor
open Go.RowKit Go.Shelf Go.Lib
attribute [local go_sem] Oper.semAt_some

/-- what the iterator tells: a log, the value of its topics, whether it is one -/
abbrev ElL := (LogD × Value) × Bool
def encL (x : ElL) : Array Value := #[.agg #[.string x.1.1.addr, x.1.2, .string x.1.1.data], .bool x.2]
def StepL (A B : World) : Prop := Below A.heap.size A B
def KeepL (B1 Bn : Nat) (W W' : World) : Prop := W.heap.size ≤ W'.heap.size ∧ ∀ g, (g < B1 ∨ g = Bn) → W'.heap[g]? = W.heap[g]?
theorem KeepL.trans {B1 Bn : Nat} {A B C : World} (h : KeepL B1 Bn A B) (k : KeepL B1 Bn B C) : KeepL B1 Bn A C := ⟨Nat.le_trans h.1 k.1, fun g hg => (k.2 g hg).trans (h.2 g hg)⟩
theorem KeepL.below {B1 Bn : Nat} {A B : World} (h : Below A.heap.size A B) (h1 : B1 ≤ A.heap.size) (h2 : Bn < A.heap.size) : KeepL B1 Bn A B := ⟨h.size, fun g hg => h.block g (by rcases hg with hg | hg <;> omega)⟩
def yI (ys : List Item) (k : Nat) : Item := ys.getD k Item.none
def GoodL (ys : List Item) (pre : List ElL) (x : ElL) (W0 W1 : World) : Prop :=
  pre.length < ys.length ∧ (∃ p n c, x.1.2 = .slice p n c) ∧ x.2 = logB (yI ys pre.length) ∧ (x.2 = true → x.1.1 = logI (yI ys pre.length) ∧ StrsIn W1 (fun g => W0.heap.size ≤ g) x.1.2 x.1.1.tops)
def RelL (ys : List Item) (pre : List ElL) : Prop := pre.length ≤ ys.length ∧ ∀ j x, pre[j]? = some x → x.2 = logB (yI ys j) ∧ (x.2 = true → x.1.1 = logI (yI ys j))
theorem RelL.snoc {ys : List Item} {pre : List ElL} {x : ElL} {W0 W1 : World} (h : RelL ys pre) (hg : GoodL ys pre x W0 W1) : RelL ys (pre ++ [x]) := by
  refine ⟨by rw [List.length_append]; have := hg.1; simp; omega, fun j y hy => ?_⟩
  by_cases hj : j < pre.length
  · rw [List.getElem?_append_left hj] at hy
    exact h.2 j y hy
  · rw [List.getElem?_append_right (by omega)] at hy
    have h0 : j - pre.length = 0 := by
      have := (List.getElem?_eq_some_iff.1 hy).1
      simp at this; omega
    rw [h0] at hy
    cases hy
    obtain rfl : j = pre.length := by omega
    exact ⟨hg.2.2.1, fun hx => (hg.2.2.2 hx).1⟩
theorem logs_any (F : Fence) (n : Nat) (hf : F.fn 42) (hro : F.round = none) (v : Value) (hv : ∃ p m c, v = .slice p m c) (w : World) :
    CallsIn F n Tryd.prog 42 #[v] w fun e w' => e = .returned (.func (.func 64) #[] #[.pointer (some ⟨w.heap.size, 0, none⟩)]) ∧ w' = w.alloc (.cells #[v] 49) := by
  obtain ⟨p, m, c, rfl⟩ := hv
  refine callsIn_of_wp Tryd.func42 rfl hf ?_ hro
  simp only [Tryd.ntmps42, List.size_toArray, List.length_cons, List.length_nil, Nat.reduceAdd, Nat.reduceSub, Array.replicate_succ, Array.replicate_zero, List.push_toArray, List.append_toArray, List.nil_append, List.cons_append]
  gi_wp2
  go_ret
  exact ⟨rfl, rfl⟩
theorem cell_otherL {W : World} {b j g i : Nat} {u v : Value} (h : W.cell? ⟨b, j, none⟩ = some u) (hne : b ≠ g) : (W.setCell ⟨g, i, none⟩ v).cell? ⟨b, j, none⟩ = some u := (World.cell?_setCell_other _ _ _ _ (fun e => by cases e; exact hne rfl)).trans h
theorem texts_lit (x : Item) (m : Nat) (hm : x.list.length = m) (p : Option Addr) (c : Nat) (w : World) (hr : Reads w w.heap.size (.slice p m c) x.list) (hl : m ≤ 1099511627775) : Calls Tryd.prog 46 #[.agg #[.bool x.isList, .string ⟨x.text.toArray⟩, .slice p m c]] w fun e w' =>
    (∃ tv ok, e = .returned (.tuple #[tv, .bool ok]) ∧ (∃ p m c, tv = .slice p m c) ∧ (ok = (allText x.list && x.isList) ∧ (ok = true → StrsIn w' (fun j => w.heap.size ≤ j) tv (x.list.map bytesT)))) ∧ Below w.heap.size w w' := by
  subst hm
  refine (texts_any x p c w hr hl).mono ?_
  rintro e w' ⟨⟨h, rfl⟩ | ⟨h, p', c', rfl, hs, ho⟩, hb⟩
  · exact ⟨⟨_, _, rfl, ⟨_, _, _, rfl⟩, by rw [h]; rfl, fun h => by cases h⟩, hb⟩
  · exact ⟨⟨_, _, rfl, ⟨_, _, _, rfl⟩, by rw [h]; rfl, fun _ => hs.within ho⟩, hb⟩
set_option maxRecDepth 100000 in
set_option maxHeartbeats 12800000 in
theorem logs_body (n : Nat) (hn : 1 ≤ n) (l Bn B1 : Nat) (ys : List Item) (p : Option Addr) (c : Nat) (hlen : ys.length ≤ 1099511627775) (hch : ∀ y ∈ ys, ∀ z ∈ y.list, z.list.length ≤ 1099511627775)
    (J Jx : List ElL → World → Prop)
    (hY : ∀ pre x W0 W1, J pre W0 → StepL W0 W1 → GoodL ys pre x W0 W1 → YieldAt Fence.wide (n - 1) Tryd.prog l (encL x) W1 fun e W' =>
      (e = .returned (.bool true) ∧ J (pre ++ [x]) W' ∧ KeepL B1 Bn W1 W') ∨ (e = .returned (.bool false) ∧ Jx (pre ++ [x]) W'))
    (W : World) (hbox : Boxed W Bn 49 (.slice p ys.length c)) (hB : B1 ≤ W.heap.size) (hr : Reads W B1 (.slice p ys.length c) ys) (h0 : J [] W) :
    CallsIn Fence.wide n Tryd.prog 64 #[.func (.yield l) #[] #[], .pointer (some ⟨Bn, 0, none⟩)] W fun e W' => (∃ v, e = .returned v) ∧
      ((∃ xs, (RelL ys xs ∧ xs.length = ys.length) ∧ J xs W') ∨ (∃ pre, RelL ys pre ∧ Jx pre W')) := by
  obtain ⟨N, hN⟩ : ∃ N, ys.length = N := ⟨_, rfl⟩
  rw [hN] at hbox hr hlen
  have HN := Lib.hid hN
  have HR := Lib.hid hr
  have HBX := Lib.hid hbox
  have HBL := Lib.hid (And.intro hB hbox.lt)
  have HCH := Lib.hid hch
  have c0 := hbox.cell
  clear hN hr hB hch
  refine callsIn_of_wp Tryd.func64 rfl trivial ?_ rfl
  simp only [Tryd.ntmps64, List.size_toArray, List.length_cons, List.length_nil, Nat.reduceAdd, Nat.reduceSub, Array.replicate_succ, Array.replicate_zero, List.push_toArray, List.append_toArray, List.nil_append, List.cons_append]
  gi_wp2
  clear hbox c0
  gi_loopw [9] (fun i wr => ∃ (k : Nat) (pre : List ElL), pre.length = k ∧ k ≤ N ∧ i = .int .i64 k ∧ J pre wr ∧ Hid (RelL ys pre) ∧ Hid (KeepL B1 Bn W wr)) (fun i wr => N - (RowKit.intOf i).toNat)
  case atStart => exact ⟨0, [], rfl, Nat.zero_le _, rfl, h0, Lib.hid ⟨Nat.zero_le _, fun j x h => by cases h⟩, Lib.hid ⟨Nat.le_refl _, fun _ _ => rfl⟩⟩
  case round =>
    obtain ⟨k, pre, hpl, hk, rfl, hJ0, HREL, HK⟩ := hrel
    have g1 : (0 : Int) ≤ k := by omega
    by_cases hlt : k < N
    · have g2 : (k : Int) < N := by omega
      obtain ⟨y, hy⟩ : ∃ y, ys[k]? = some y := ⟨_, List.getElem?_eq_getElem (by rw [HN.out]; exact hlt)⟩
      have hyI : yI ys k = y := by unfold yI; rw [List.getD_eq_getElem?_getD, hy]; rfl
      obtain ⟨-, g, o, rfl, hg, hat⟩ := Reads.at HR.out (by omega)
      obtain ⟨a0, a1, v', a2, hv'⟩ := hat k y hy
      have hkb : ∀ q j u, q < B1 → W.cell? ⟨q, j, none⟩ = some u → wr.cell? ⟨q, j, none⟩ = some u := fun q j u hq hc => (World.cell?_of_block (a := ⟨q, j, none⟩) (HK.out.2 q (.inl hq))).trans hc
      have c0 := hkb _ _ _ hg a0
      have c1 := hkb _ _ _ hg a1
      have c2 := hkb _ _ _ hg a2
      have hv2 : Reads wr B1 v' y.list := ReadsIn.kept hv' (fun q u j hq hc => hkb q j u hq hc) (fun _ h => h)
      obtain ⟨q1, n1, rfl⟩ := hv2.form
      have hym : y ∈ ys := List.mem_of_getElem? hy
      obtain ⟨yl, hyl⟩ : ∃ l, y.list = l := ⟨_, rfl⟩
      obtain ⟨m, hm⟩ : ∃ m, yl.length = m := ⟨_, rfl⟩
      have hz : ∀ z ∈ yl, z.list.length ≤ 1099511627775 := by rw [← hyl]; exact HCH.out y hym
      have hbn : B1 ≤ wr.heap.size ∧ Bn < wr.heap.size := by have := HK.out.1; have := HBL.out; omega
      rw [hyl] at hv2 c2
      rw [hm] at hv2 c2
      have HV := Lib.hid hv2
      have HYL := Lib.hid hyl
      have HM := Lib.hid hm
      have HZ := Lib.hid hz
      have HBN := Lib.hid hbn
      have HYI := Lib.hid hyI
      have HPL := Lib.hid hpl
      have hj := hJ0
      clear hat a0 a1 a2 hv' hkb hv2 hyl hm hz hbn hy hym hyI hpl
      cases hil : y.isList with
      | false =>
        have HIL := Lib.hid hil
        rw [hil] at c0
        clear hil
        gi_wp2
        obtain ⟨w2, hw2⟩ : ∃ W, (wr.alloc (.cells #[.bool false, .string ⟨y.text.toArray⟩, .slice q1 m n1] 51)).alloc (.cells #[.string ⟨#[]⟩, .slice none 0 0, .string ⟨#[]⟩] 64) = W := ⟨_, rfl⟩
        have hlo : Below wr.heap.size wr w2 := by rw [← hw2]; exact laid2 _ _ _
        have h3 := cells_three (w := wr.alloc (.cells #[.bool false, .string ⟨y.text.toArray⟩, .slice q1 m n1] 51)) (v0 := .string ⟨#[]⟩) (v1 := .slice none 0 0) (v2 := .string ⟨#[]⟩) (t := 64) (Below.refl _ _)
        rw [hw2, World.size_alloc] at h3
        rw [hw2]
        have hlb : logB y = false := by unfold logB shapeB; rw [HIL.out]; rfl
        clear hw2
        have hst : Below wr.heap.size wr w2.drew := (hlo).drew
        have hgd : GoodL ys pre ((⟨⟨#[]⟩, [], ⟨#[]⟩⟩, .slice none 0 0), false) wr w2.drew := ⟨by rw [HPL.out, HN.out]; exact hlt, ⟨_, _, _, rfl⟩, by rw [HPL.out, HYI.out]; exact (hlb).symm, fun h => by cases h⟩
        obtain ⟨f1, t1, a1, b1, hy1, hR1⟩ := hY pre ((⟨⟨#[]⟩, [], ⟨#[]⟩⟩, .slice none 0 0), false) wr w2.drew hJ0 hst hgd
        simp only [encL] at hy1
        have HST := Lib.hid hst
        have HGD := Lib.hid hgd
        have HR1 := Lib.hid hR1
        have q0 : w2.drew.cell? ⟨wr.heap.size + 1, 0, none⟩ = some (.string ⟨#[]⟩) := h3.1
        have q1 : w2.drew.cell? ⟨wr.heap.size + 1, 1, none⟩ = some (.slice none 0 0) := h3.2.1
        have q2 : w2.drew.cell? ⟨wr.heap.size + 1, 2, none⟩ = some (.string ⟨#[]⟩) := h3.2.2
        clear hst hgd hR1
        refine wpIn_region_any (by kernel_rfl) ?_
        try (change wpAnyIn _ _ _ _ _ _ _ _ _ (World.drew _))
        refine wpAnyIn_take (i := 0) (v := ?_) rfl rfl (by kernel_rfl) (by kernel_rfl) (by kernel_rfl) (fun _ _ _ h => h) ⟨Or.inl ⟨by rfl, ?_⟩, fun _ => rfl⟩ ?_
        rotate_left 1
        · intro w9
          go_simp <;> with_reducible rfl
        try simp only [Act.put, List.getElem_toArray, List.getElem_cons_zero, List.setIfInBounds_toArray, List.set_cons_zero, List.set_cons_succ]
        refine wpAnyIn_take (i := 2) (v := ?_) rfl rfl (by kernel_rfl) (by kernel_rfl) (by kernel_rfl) (fun _ _ _ h => h) ⟨Or.inl ⟨by rfl, ?_⟩, fun _ => rfl⟩ ?_
        rotate_left 1
        · intro w9
          go_simp <;> with_reducible rfl
        try simp only [Act.put, List.getElem_toArray, List.getElem_cons_zero, List.getElem_cons_succ, List.setIfInBounds_toArray, List.set_cons_zero, List.set_cons_succ]
        refine wpAnyIn_take (i := 3) (v := ?_) rfl rfl (by kernel_rfl) (by kernel_rfl) (by kernel_rfl) (fun _ _ _ h => h) ⟨Or.inl ⟨by rfl, ?_⟩, fun _ => rfl⟩ ?_
        rotate_left 1
        · intro w9
          go_simp <;> with_reducible rfl
        try simp only [Act.put, List.getElem_toArray, List.getElem_cons_zero, List.getElem_cons_succ, List.setIfInBounds_toArray, List.set_cons_zero, List.set_cons_succ]
        refine wpAnyIn_take (i := 4) (v := undef) rfl rfl (by kernel_rfl) (by kernel_rfl) (by kernel_rfl) (fun _ _ _ h => h) ⟨Or.inr ⟨by rfl, rfl⟩, fun _ => rfl⟩ ?_
        try simp only [Act.put, List.getElem_toArray, List.getElem_cons_zero, List.getElem_cons_succ, List.setIfInBounds_toArray, List.set_cons_zero, List.set_cons_succ]
        refine wpAnyIn_ready (rs := [1, 5]) (by kernel_rfl) (by simp) ?_
        refine AllReadyIn.cons rfl (fun K hK => ?_) (AllReadyIn.cons rfl (fun K hK => ?_) AllReadyIn.nil)
        · go_simp
          refine hK _ _ ?_
          clear hK K
          try simp only [Act.put, List.getElem_toArray, List.getElem_cons_zero, List.getElem_cons_succ, List.setIfInBounds_toArray, List.set_cons_zero, List.set_cons_succ]
          refine wpAnyIn_ready (rs := [5]) (by kernel_rfl) (by simp) ?_
          refine AllReadyIn.cons rfl (fun K hK => ?_) AllReadyIn.nil
          go_simp
          refine ⟨trivial, ?_⟩
          refine hK _ _ ?_
          clear hK K
          try simp only [Act.put, List.getElem_toArray, List.getElem_cons_zero, List.getElem_cons_succ, List.setIfInBounds_toArray, List.set_cons_zero, List.set_cons_succ]
          refine wpAnyIn_take (i := 6) (v := ?_) rfl rfl (by kernel_rfl) (by kernel_rfl) (by kernel_rfl) (fun _ _ _ h => h) ⟨Or.inl ⟨by rfl, ?_⟩, fun _ => rfl⟩ ?_
          rotate_left 1
          · intro w9
            go_simp <;> with_reducible rfl
          try simp only [Act.put, List.getElem_toArray, List.getElem_cons_zero, List.getElem_cons_succ, List.setIfInBounds_toArray, List.set_cons_zero, List.set_cons_succ]
          refine wpAnyIn_ready (rs := [7]) (by kernel_rfl) (by simp) ?_
          refine AllReadyIn.cons rfl (fun K hK => ?_) AllReadyIn.nil
          go_simp
          gi_wp2_with fail
          refine HR1.out.mono ?_
          rintro e W1 (⟨rfl, hJ1, hk1⟩ | ⟨rfl, hx1⟩)
          · refine hK _ _ ?_
            clear hK K
            try simp only [Act.put, List.getElem_toArray, List.getElem_cons_zero, List.getElem_cons_succ, List.setIfInBounds_toArray, List.set_cons_zero, List.set_cons_succ]
            refine wpAnyIn_take (i := 8) (v := ?_) rfl rfl (by kernel_rfl) (by kernel_rfl) (by kernel_rfl) (fun _ _ _ h => h) ⟨Or.inl ⟨by rfl, ?_⟩, fun _ => rfl⟩ ?_
            rotate_left 1
            · intro w9
              go_simp <;> with_reducible rfl
            try simp only [Act.put, List.getElem_toArray, List.getElem_cons_zero, List.getElem_cons_succ, List.setIfInBounds_toArray, List.set_cons_zero, List.set_cons_succ]
            refine wpAnyIn_done (by kernel_rfl) ?_ _
            gi_wp2
            go_roundw
            case rel => exact ⟨k + 1, pre ++ [((⟨⟨#[]⟩, [], ⟨#[]⟩⟩, .slice none 0 0), false)], by rw [List.length_append, HPL.out]; rfl, by omega, by go_num, hJ1, Lib.hid (HREL.out.snoc (HGD.out)), Lib.hid (HK.out.trans ((KeepL.below HST.out HBN.out.1 HBN.out.2).trans hk1))⟩
            case measure => simp [RowKit.intOf]; omega
          · refine hK _ _ ?_
            clear hK K
            try simp only [Act.put, List.getElem_toArray, List.getElem_cons_zero, List.getElem_cons_succ, List.setIfInBounds_toArray, List.set_cons_zero, List.set_cons_succ]
            refine wpAnyIn_take (i := 8) (v := ?_) rfl rfl (by kernel_rfl) (by kernel_rfl) (by kernel_rfl) (fun _ _ _ h => h) ⟨Or.inl ⟨by rfl, ?_⟩, fun _ => rfl⟩ ?_
            rotate_left 1
            · intro w9
              go_simp <;> with_reducible rfl
            try simp only [Act.put, List.getElem_toArray, List.getElem_cons_zero, List.getElem_cons_succ, List.setIfInBounds_toArray, List.set_cons_zero, List.set_cons_succ]
            refine wpAnyIn_done (by kernel_rfl) ?_ _
            gi_wp2
            refine bodyPost_ret (results_none rfl _ _ _) rfl ?_
            exact ⟨⟨_, rfl⟩, .inr ⟨_, HREL.out.snoc (HGD.out), hx1⟩⟩
        · go_simp
          refine ⟨trivial, ?_⟩
          refine hK _ _ ?_
          clear hK K
          try simp only [Act.put, List.getElem_toArray, List.getElem_cons_zero, List.getElem_cons_succ, List.setIfInBounds_toArray, List.set_cons_zero, List.set_cons_succ]
          refine wpAnyIn_take (i := 6) (v := ?_) rfl rfl (by kernel_rfl) (by kernel_rfl) (by kernel_rfl) (fun _ _ _ h => h) ⟨Or.inl ⟨by rfl, ?_⟩, fun _ => rfl⟩ ?_
          rotate_left 1
          · intro w9
            go_simp <;> with_reducible rfl
          try simp only [Act.put, List.getElem_toArray, List.getElem_cons_zero, List.getElem_cons_succ, List.setIfInBounds_toArray, List.set_cons_zero, List.set_cons_succ]
          refine wpAnyIn_ready (rs := [1]) (by kernel_rfl) (by simp) ?_
          refine AllReadyIn.cons rfl (fun K hK => ?_) AllReadyIn.nil
          go_simp
          refine hK _ _ ?_
          clear hK K
          try simp only [Act.put, List.getElem_toArray, List.getElem_cons_zero, List.getElem_cons_succ, List.setIfInBounds_toArray, List.set_cons_zero, List.set_cons_succ]
          refine wpAnyIn_ready (rs := [7]) (by kernel_rfl) (by simp) ?_
          refine AllReadyIn.cons rfl (fun K hK => ?_) AllReadyIn.nil
          go_simp
          gi_wp2_with fail
          refine HR1.out.mono ?_
          rintro e W1 (⟨rfl, hJ1, hk1⟩ | ⟨rfl, hx1⟩)
          · refine hK _ _ ?_
            clear hK K
            try simp only [Act.put, List.getElem_toArray, List.getElem_cons_zero, List.getElem_cons_succ, List.setIfInBounds_toArray, List.set_cons_zero, List.set_cons_succ]
            refine wpAnyIn_take (i := 8) (v := ?_) rfl rfl (by kernel_rfl) (by kernel_rfl) (by kernel_rfl) (fun _ _ _ h => h) ⟨Or.inl ⟨by rfl, ?_⟩, fun _ => rfl⟩ ?_
            rotate_left 1
            · intro w9
              go_simp <;> with_reducible rfl
            try simp only [Act.put, List.getElem_toArray, List.getElem_cons_zero, List.getElem_cons_succ, List.setIfInBounds_toArray, List.set_cons_zero, List.set_cons_succ]
            refine wpAnyIn_done (by kernel_rfl) ?_ _
            gi_wp2
            go_roundw
            case rel => exact ⟨k + 1, pre ++ [((⟨⟨#[]⟩, [], ⟨#[]⟩⟩, .slice none 0 0), false)], by rw [List.length_append, HPL.out]; rfl, by omega, by go_num, hJ1, Lib.hid (HREL.out.snoc (HGD.out)), Lib.hid (HK.out.trans ((KeepL.below HST.out HBN.out.1 HBN.out.2).trans hk1))⟩
            case measure => simp [RowKit.intOf]; omega
          · refine hK _ _ ?_
            clear hK K
            try simp only [Act.put, List.getElem_toArray, List.getElem_cons_zero, List.getElem_cons_succ, List.setIfInBounds_toArray, List.set_cons_zero, List.set_cons_succ]
            refine wpAnyIn_take (i := 8) (v := ?_) rfl rfl (by kernel_rfl) (by kernel_rfl) (by kernel_rfl) (fun _ _ _ h => h) ⟨Or.inl ⟨by rfl, ?_⟩, fun _ => rfl⟩ ?_
            rotate_left 1
            · intro w9
              go_simp <;> with_reducible rfl
            try simp only [Act.put, List.getElem_toArray, List.getElem_cons_zero, List.getElem_cons_succ, List.setIfInBounds_toArray, List.set_cons_zero, List.set_cons_succ]
            refine wpAnyIn_done (by kernel_rfl) ?_ _
            gi_wp2
            refine bodyPost_ret (results_none rfl _ _ _) rfl ?_
            exact ⟨⟨_, rfl⟩, .inr ⟨_, HREL.out.snoc (HGD.out), hx1⟩⟩
      | true =>
        have HIL := Lib.hid hil
        rw [hil] at c0
        clear hil
        by_cases h3m : m = 3
        · subst h3m
          obtain ⟨z0, z1, z2, rfl⟩ : ∃ a b c, yl = [a, b, c] := ⟨_, _, _, getD3 Item.none HM.out⟩
          obtain ⟨-, gc, oc, rfl, hgc, hac⟩ := Reads.at HV.out (by decide)
          obtain ⟨x00, x01, _⟩ := hac 0 z0 rfl
          obtain ⟨x10, x11, vc, x12, hvc⟩ := hac 1 z1 rfl
          obtain ⟨x20, x21, _⟩ := hac 2 z2 rfl
          obtain ⟨qc, nc, rfl⟩ := hvc.form
          simp only [Nat.zero_mul, Nat.one_mul, Nat.add_zero, Nat.add_assoc, Nat.reduceMul, Nat.reduceAdd] at x00 x01 x10 x11 x12 x20 x21
          obtain ⟨mc, hmc⟩ : ∃ m, z1.list.length = m := ⟨_, rfl⟩
          rw [hmc] at x12 hvc
          have hgw : gc < wr.heap.size := by have := HBN.out.1; omega
          have HE := Lib.hid (fun W' (hb : Below wr.heap.size wr W') => (show (W'.cell? ⟨gc, oc, none⟩ = some (.bool z0.isList) ∧ W'.cell? ⟨gc, oc + 1, none⟩ = some (.string ⟨z0.text.toArray⟩)) ∧ (W'.cell? ⟨gc, oc + 3, none⟩ = some (.bool z1.isList) ∧ W'.cell? ⟨gc, oc + 4, none⟩ = some (.string ⟨z1.text.toArray⟩) ∧ W'.cell? ⟨gc, oc + 5, none⟩ = some (.slice qc mc nc)) ∧ (W'.cell? ⟨gc, oc + 6, none⟩ = some (.bool z2.isList) ∧ W'.cell? ⟨gc, oc + 7, none⟩ = some (.string ⟨z2.text.toArray⟩)) from
            ⟨⟨(hb.cell (p := ⟨gc, oc, none⟩) hgw).trans x00, (hb.cell (p := ⟨gc, oc + 1, none⟩) hgw).trans x01⟩, ⟨(hb.cell (p := ⟨gc, oc + 3, none⟩) hgw).trans x10, (hb.cell (p := ⟨gc, oc + 4, none⟩) hgw).trans x11, (hb.cell (p := ⟨gc, oc + 5, none⟩) hgw).trans x12⟩, (hb.cell (p := ⟨gc, oc + 6, none⟩) hgw).trans x20, (hb.cell (p := ⟨gc, oc + 7, none⟩) hgw).trans x21⟩))
          have hzl : mc ≤ 1099511627775 := by rw [← hmc]; exact HZ.out z1 (by simp)
          have HVC := Lib.hid (fun W' (hb : Below wr.heap.size wr W') => (ReadsIn.kept hvc (fun q u j hq hc => (hb.cell (p := ⟨q, j, none⟩) (by show q < _; have := HBN.out.1; omega)).trans hc) (fun q hq => by have := hb.size; have := HBN.out.1; omega) : Reads W' W'.heap.size (.slice qc mc nc) z1.list))
          have HMC := Lib.hid hmc
          have HGW := Lib.hid hgw
          have HLI := Lib.hid (show logI y = ⟨⟨z0.text.toArray⟩, z1.list.map bytesT, ⟨z2.text.toArray⟩⟩ from by unfold logI; rw [HYL.out]; rfl)
          have HLB := Lib.hid (show logB y = (((!z0.isList && !z2.isList) && (allText z1.list && z1.isList)) && rightLog (logI y)) from by unfold logB shapeB textsB; rw [HYL.out, HIL.out]; simp [List.getD])
          have hlo := laid2 wr (.cells #[.bool true, .string ⟨y.text.toArray⟩, .slice (some ⟨gc, oc, none⟩) 3 n1] 51) (.cells #[.string ⟨#[]⟩, .slice none 0 0, .string ⟨#[]⟩] 64)
          clear x00 x01 x10 x11 x12 x20 x21 hvc hac hmc hgw
          obtain ⟨⟨y00, y01⟩, ⟨y10, y11, y12⟩, y20, y21⟩ := HE.out _ hlo
          obtain ⟨l0, hl0⟩ : ∃ b, z0.isList = b := ⟨_, rfl⟩
          obtain ⟨l2, hl2⟩ : ∃ b, z2.isList = b := ⟨_, rfl⟩
          rw [hl0] at y00 HLB
          rw [hl2] at y20 HLB
          cases l0 with
          | true =>
            clear hl0 hl2 y10 y11 y12 y20 y21 y01
            gi_wp2
            clear hlo y00
            obtain ⟨w2, hw2⟩ : ∃ W, (wr.alloc (.cells #[.bool true, .string ⟨y.text.toArray⟩, .slice (some ⟨gc, oc, none⟩) 3 n1] 51)).alloc (.cells #[.string ⟨#[]⟩, .slice none 0 0, .string ⟨#[]⟩] 64) = W := ⟨_, rfl⟩
            have hlo2 : Below wr.heap.size wr w2 := by rw [← hw2]; exact laid2 _ _ _
            have h3 := cells_three (w := wr.alloc (.cells #[.bool true, .string ⟨y.text.toArray⟩, .slice (some ⟨gc, oc, none⟩) 3 n1] 51)) (v0 := .string ⟨#[]⟩) (v1 := .slice none 0 0) (v2 := .string ⟨#[]⟩) (t := 64) (Below.refl _ _)
            rw [hw2, World.size_alloc] at h3
            rw [hw2]
            have hlb : logB y = false := by rw [HLB.out]; rfl
            clear hw2
            have hst : Below wr.heap.size wr w2.drew := (hlo2).drew
            have hgd : GoodL ys pre ((⟨⟨#[]⟩, [], ⟨#[]⟩⟩, .slice none 0 0), false) wr w2.drew := ⟨by rw [HPL.out, HN.out]; exact hlt, ⟨_, _, _, rfl⟩, by rw [HPL.out, HYI.out]; exact (hlb).symm, fun h => by cases h⟩
            obtain ⟨f1, t1, a1, b1, hy1, hR1⟩ := hY pre ((⟨⟨#[]⟩, [], ⟨#[]⟩⟩, .slice none 0 0), false) wr w2.drew hJ0 hst hgd
            simp only [encL] at hy1
            have HST := Lib.hid hst
            have HGD := Lib.hid hgd
            have HR1 := Lib.hid hR1
            have q0 : w2.drew.cell? ⟨wr.heap.size + 1, 0, none⟩ = some (.string ⟨#[]⟩) := h3.1
            have q1 : w2.drew.cell? ⟨wr.heap.size + 1, 1, none⟩ = some (.slice none 0 0) := h3.2.1
            have q2 : w2.drew.cell? ⟨wr.heap.size + 1, 2, none⟩ = some (.string ⟨#[]⟩) := h3.2.2
            clear hst hgd hR1
            refine wpIn_region_any (by kernel_rfl) ?_
            try (change wpAnyIn _ _ _ _ _ _ _ _ _ (World.drew _))
            refine wpAnyIn_take (i := 0) (v := ?_) rfl rfl (by kernel_rfl) (by kernel_rfl) (by kernel_rfl) (fun _ _ _ h => h) ⟨Or.inl ⟨by rfl, ?_⟩, fun _ => rfl⟩ ?_
            rotate_left 1
            · intro w9
              go_simp <;> with_reducible rfl
            try simp only [Act.put, List.getElem_toArray, List.getElem_cons_zero, List.setIfInBounds_toArray, List.set_cons_zero, List.set_cons_succ]
            refine wpAnyIn_take (i := 2) (v := ?_) rfl rfl (by kernel_rfl) (by kernel_rfl) (by kernel_rfl) (fun _ _ _ h => h) ⟨Or.inl ⟨by rfl, ?_⟩, fun _ => rfl⟩ ?_
            rotate_left 1
            · intro w9
              go_simp <;> with_reducible rfl
            try simp only [Act.put, List.getElem_toArray, List.getElem_cons_zero, List.getElem_cons_succ, List.setIfInBounds_toArray, List.set_cons_zero, List.set_cons_succ]
            refine wpAnyIn_take (i := 3) (v := ?_) rfl rfl (by kernel_rfl) (by kernel_rfl) (by kernel_rfl) (fun _ _ _ h => h) ⟨Or.inl ⟨by rfl, ?_⟩, fun _ => rfl⟩ ?_
            rotate_left 1
            · intro w9
              go_simp <;> with_reducible rfl
            try simp only [Act.put, List.getElem_toArray, List.getElem_cons_zero, List.getElem_cons_succ, List.setIfInBounds_toArray, List.set_cons_zero, List.set_cons_succ]
            refine wpAnyIn_take (i := 4) (v := undef) rfl rfl (by kernel_rfl) (by kernel_rfl) (by kernel_rfl) (fun _ _ _ h => h) ⟨Or.inr ⟨by rfl, rfl⟩, fun _ => rfl⟩ ?_
            try simp only [Act.put, List.getElem_toArray, List.getElem_cons_zero, List.getElem_cons_succ, List.setIfInBounds_toArray, List.set_cons_zero, List.set_cons_succ]
            refine wpAnyIn_ready (rs := [1, 5]) (by kernel_rfl) (by simp) ?_
            refine AllReadyIn.cons rfl (fun K hK => ?_) (AllReadyIn.cons rfl (fun K hK => ?_) AllReadyIn.nil)
            · go_simp
              refine hK _ _ ?_
              clear hK K
              try simp only [Act.put, List.getElem_toArray, List.getElem_cons_zero, List.getElem_cons_succ, List.setIfInBounds_toArray, List.set_cons_zero, List.set_cons_succ]
              refine wpAnyIn_ready (rs := [5]) (by kernel_rfl) (by simp) ?_
              refine AllReadyIn.cons rfl (fun K hK => ?_) AllReadyIn.nil
              go_simp
              refine ⟨trivial, ?_⟩
              refine hK _ _ ?_
              clear hK K
              try simp only [Act.put, List.getElem_toArray, List.getElem_cons_zero, List.getElem_cons_succ, List.setIfInBounds_toArray, List.set_cons_zero, List.set_cons_succ]
              refine wpAnyIn_take (i := 6) (v := ?_) rfl rfl (by kernel_rfl) (by kernel_rfl) (by kernel_rfl) (fun _ _ _ h => h) ⟨Or.inl ⟨by rfl, ?_⟩, fun _ => rfl⟩ ?_
              rotate_left 1
              · intro w9
                go_simp <;> with_reducible rfl
              try simp only [Act.put, List.getElem_toArray, List.getElem_cons_zero, List.getElem_cons_succ, List.setIfInBounds_toArray, List.set_cons_zero, List.set_cons_succ]
              refine wpAnyIn_ready (rs := [7]) (by kernel_rfl) (by simp) ?_
              refine AllReadyIn.cons rfl (fun K hK => ?_) AllReadyIn.nil
              go_simp
              gi_wp2_with fail
              refine HR1.out.mono ?_
              rintro e W1 (⟨rfl, hJ1, hk1⟩ | ⟨rfl, hx1⟩)
              · refine hK _ _ ?_
                clear hK K
                try simp only [Act.put, List.getElem_toArray, List.getElem_cons_zero, List.getElem_cons_succ, List.setIfInBounds_toArray, List.set_cons_zero, List.set_cons_succ]
                refine wpAnyIn_take (i := 8) (v := ?_) rfl rfl (by kernel_rfl) (by kernel_rfl) (by kernel_rfl) (fun _ _ _ h => h) ⟨Or.inl ⟨by rfl, ?_⟩, fun _ => rfl⟩ ?_
                rotate_left 1
                · intro w9
                  go_simp <;> with_reducible rfl
                try simp only [Act.put, List.getElem_toArray, List.getElem_cons_zero, List.getElem_cons_succ, List.setIfInBounds_toArray, List.set_cons_zero, List.set_cons_succ]
                refine wpAnyIn_done (by kernel_rfl) ?_ _
                gi_wp2
                go_roundw
                case rel => exact ⟨k + 1, pre ++ [((⟨⟨#[]⟩, [], ⟨#[]⟩⟩, .slice none 0 0), false)], by rw [List.length_append, HPL.out]; rfl, by omega, by go_num, hJ1, Lib.hid (HREL.out.snoc (HGD.out)), Lib.hid (HK.out.trans ((KeepL.below HST.out HBN.out.1 HBN.out.2).trans hk1))⟩
                case measure => simp [RowKit.intOf]; omega
              · refine hK _ _ ?_
                clear hK K
                try simp only [Act.put, List.getElem_toArray, List.getElem_cons_zero, List.getElem_cons_succ, List.setIfInBounds_toArray, List.set_cons_zero, List.set_cons_succ]
                refine wpAnyIn_take (i := 8) (v := ?_) rfl rfl (by kernel_rfl) (by kernel_rfl) (by kernel_rfl) (fun _ _ _ h => h) ⟨Or.inl ⟨by rfl, ?_⟩, fun _ => rfl⟩ ?_
                rotate_left 1
                · intro w9
                  go_simp <;> with_reducible rfl
                try simp only [Act.put, List.getElem_toArray, List.getElem_cons_zero, List.getElem_cons_succ, List.setIfInBounds_toArray, List.set_cons_zero, List.set_cons_succ]
                refine wpAnyIn_done (by kernel_rfl) ?_ _
                gi_wp2
                refine bodyPost_ret (results_none rfl _ _ _) rfl ?_
                exact ⟨⟨_, rfl⟩, .inr ⟨_, HREL.out.snoc (HGD.out), hx1⟩⟩
            · go_simp
              refine ⟨trivial, ?_⟩
              refine hK _ _ ?_
              clear hK K
              try simp only [Act.put, List.getElem_toArray, List.getElem_cons_zero, List.getElem_cons_succ, List.setIfInBounds_toArray, List.set_cons_zero, List.set_cons_succ]
              refine wpAnyIn_take (i := 6) (v := ?_) rfl rfl (by kernel_rfl) (by kernel_rfl) (by kernel_rfl) (fun _ _ _ h => h) ⟨Or.inl ⟨by rfl, ?_⟩, fun _ => rfl⟩ ?_
              rotate_left 1
              · intro w9
                go_simp <;> with_reducible rfl
              try simp only [Act.put, List.getElem_toArray, List.getElem_cons_zero, List.getElem_cons_succ, List.setIfInBounds_toArray, List.set_cons_zero, List.set_cons_succ]
              refine wpAnyIn_ready (rs := [1]) (by kernel_rfl) (by simp) ?_
              refine AllReadyIn.cons rfl (fun K hK => ?_) AllReadyIn.nil
              go_simp
              refine hK _ _ ?_
              clear hK K
              try simp only [Act.put, List.getElem_toArray, List.getElem_cons_zero, List.getElem_cons_succ, List.setIfInBounds_toArray, List.set_cons_zero, List.set_cons_succ]
              refine wpAnyIn_ready (rs := [7]) (by kernel_rfl) (by simp) ?_
              refine AllReadyIn.cons rfl (fun K hK => ?_) AllReadyIn.nil
              go_simp
              gi_wp2_with fail
              refine HR1.out.mono ?_
              rintro e W1 (⟨rfl, hJ1, hk1⟩ | ⟨rfl, hx1⟩)
              · refine hK _ _ ?_
                clear hK K
                try simp only [Act.put, List.getElem_toArray, List.getElem_cons_zero, List.getElem_cons_succ, List.setIfInBounds_toArray, List.set_cons_zero, List.set_cons_succ]
                refine wpAnyIn_take (i := 8) (v := ?_) rfl rfl (by kernel_rfl) (by kernel_rfl) (by kernel_rfl) (fun _ _ _ h => h) ⟨Or.inl ⟨by rfl, ?_⟩, fun _ => rfl⟩ ?_
                rotate_left 1
                · intro w9
                  go_simp <;> with_reducible rfl
                try simp only [Act.put, List.getElem_toArray, List.getElem_cons_zero, List.getElem_cons_succ, List.setIfInBounds_toArray, List.set_cons_zero, List.set_cons_succ]
                refine wpAnyIn_done (by kernel_rfl) ?_ _
                gi_wp2
                go_roundw
                case rel => exact ⟨k + 1, pre ++ [((⟨⟨#[]⟩, [], ⟨#[]⟩⟩, .slice none 0 0), false)], by rw [List.length_append, HPL.out]; rfl, by omega, by go_num, hJ1, Lib.hid (HREL.out.snoc (HGD.out)), Lib.hid (HK.out.trans ((KeepL.below HST.out HBN.out.1 HBN.out.2).trans hk1))⟩
                case measure => simp [RowKit.intOf]; omega
              · refine hK _ _ ?_
                clear hK K
                try simp only [Act.put, List.getElem_toArray, List.getElem_cons_zero, List.getElem_cons_succ, List.setIfInBounds_toArray, List.set_cons_zero, List.set_cons_succ]
                refine wpAnyIn_take (i := 8) (v := ?_) rfl rfl (by kernel_rfl) (by kernel_rfl) (by kernel_rfl) (fun _ _ _ h => h) ⟨Or.inl ⟨by rfl, ?_⟩, fun _ => rfl⟩ ?_
                rotate_left 1
                · intro w9
                  go_simp <;> with_reducible rfl
                try simp only [Act.put, List.getElem_toArray, List.getElem_cons_zero, List.getElem_cons_succ, List.setIfInBounds_toArray, List.set_cons_zero, List.set_cons_succ]
                refine wpAnyIn_done (by kernel_rfl) ?_ _
                gi_wp2
                refine bodyPost_ret (results_none rfl _ _ _) rfl ?_
                exact ⟨⟨_, rfl⟩, .inr ⟨_, HREL.out.snoc (HGD.out), hx1⟩⟩
          | false =>
            cases l2 with
            | true =>
              clear hl0 hl2 y10 y11 y12 y21 y01
              gi_wp2
              clear hlo y00 y20
              obtain ⟨w2, hw2⟩ : ∃ W, (wr.alloc (.cells #[.bool true, .string ⟨y.text.toArray⟩, .slice (some ⟨gc, oc, none⟩) 3 n1] 51)).alloc (.cells #[.string ⟨#[]⟩, .slice none 0 0, .string ⟨#[]⟩] 64) = W := ⟨_, rfl⟩
              have hlo2 : Below wr.heap.size wr w2 := by rw [← hw2]; exact laid2 _ _ _
              have h3 := cells_three (w := wr.alloc (.cells #[.bool true, .string ⟨y.text.toArray⟩, .slice (some ⟨gc, oc, none⟩) 3 n1] 51)) (v0 := .string ⟨#[]⟩) (v1 := .slice none 0 0) (v2 := .string ⟨#[]⟩) (t := 64) (Below.refl _ _)
              rw [hw2, World.size_alloc] at h3
              rw [hw2]
              have hlb : logB y = false := by rw [HLB.out]; rfl
              clear hw2
              have hst : Below wr.heap.size wr w2.drew := (hlo2).drew
              have hgd : GoodL ys pre ((⟨⟨#[]⟩, [], ⟨#[]⟩⟩, .slice none 0 0), false) wr w2.drew := ⟨by rw [HPL.out, HN.out]; exact hlt, ⟨_, _, _, rfl⟩, by rw [HPL.out, HYI.out]; exact (hlb).symm, fun h => by cases h⟩
              obtain ⟨f1, t1, a1, b1, hy1, hR1⟩ := hY pre ((⟨⟨#[]⟩, [], ⟨#[]⟩⟩, .slice none 0 0), false) wr w2.drew hJ0 hst hgd
              simp only [encL] at hy1
              have HST := Lib.hid hst
              have HGD := Lib.hid hgd
              have HR1 := Lib.hid hR1
              have q0 : w2.drew.cell? ⟨wr.heap.size + 1, 0, none⟩ = some (.string ⟨#[]⟩) := h3.1
              have q1 : w2.drew.cell? ⟨wr.heap.size + 1, 1, none⟩ = some (.slice none 0 0) := h3.2.1
              have q2 : w2.drew.cell? ⟨wr.heap.size + 1, 2, none⟩ = some (.string ⟨#[]⟩) := h3.2.2
              clear hst hgd hR1
              refine wpIn_region_any (by kernel_rfl) ?_
              try (change wpAnyIn _ _ _ _ _ _ _ _ _ (World.drew _))
              refine wpAnyIn_take (i := 0) (v := ?_) rfl rfl (by kernel_rfl) (by kernel_rfl) (by kernel_rfl) (fun _ _ _ h => h) ⟨Or.inl ⟨by rfl, ?_⟩, fun _ => rfl⟩ ?_
              rotate_left 1
              · intro w9
                go_simp <;> with_reducible rfl
              try simp only [Act.put, List.getElem_toArray, List.getElem_cons_zero, List.setIfInBounds_toArray, List.set_cons_zero, List.set_cons_succ]
              refine wpAnyIn_take (i := 2) (v := ?_) rfl rfl (by kernel_rfl) (by kernel_rfl) (by kernel_rfl) (fun _ _ _ h => h) ⟨Or.inl ⟨by rfl, ?_⟩, fun _ => rfl⟩ ?_
              rotate_left 1
              · intro w9
                go_simp <;> with_reducible rfl
              try simp only [Act.put, List.getElem_toArray, List.getElem_cons_zero, List.getElem_cons_succ, List.setIfInBounds_toArray, List.set_cons_zero, List.set_cons_succ]
              refine wpAnyIn_take (i := 3) (v := ?_) rfl rfl (by kernel_rfl) (by kernel_rfl) (by kernel_rfl) (fun _ _ _ h => h) ⟨Or.inl ⟨by rfl, ?_⟩, fun _ => rfl⟩ ?_
              rotate_left 1
              · intro w9
                go_simp <;> with_reducible rfl
              try simp only [Act.put, List.getElem_toArray, List.getElem_cons_zero, List.getElem_cons_succ, List.setIfInBounds_toArray, List.set_cons_zero, List.set_cons_succ]
              refine wpAnyIn_take (i := 4) (v := undef) rfl rfl (by kernel_rfl) (by kernel_rfl) (by kernel_rfl) (fun _ _ _ h => h) ⟨Or.inr ⟨by rfl, rfl⟩, fun _ => rfl⟩ ?_
              try simp only [Act.put, List.getElem_toArray, List.getElem_cons_zero, List.getElem_cons_succ, List.setIfInBounds_toArray, List.set_cons_zero, List.set_cons_succ]
              refine wpAnyIn_ready (rs := [1, 5]) (by kernel_rfl) (by simp) ?_
              refine AllReadyIn.cons rfl (fun K hK => ?_) (AllReadyIn.cons rfl (fun K hK => ?_) AllReadyIn.nil)
              · go_simp
                refine hK _ _ ?_
                clear hK K
                try simp only [Act.put, List.getElem_toArray, List.getElem_cons_zero, List.getElem_cons_succ, List.setIfInBounds_toArray, List.set_cons_zero, List.set_cons_succ]
                refine wpAnyIn_ready (rs := [5]) (by kernel_rfl) (by simp) ?_
                refine AllReadyIn.cons rfl (fun K hK => ?_) AllReadyIn.nil
                go_simp
                refine ⟨trivial, ?_⟩
                refine hK _ _ ?_
                clear hK K
                try simp only [Act.put, List.getElem_toArray, List.getElem_cons_zero, List.getElem_cons_succ, List.setIfInBounds_toArray, List.set_cons_zero, List.set_cons_succ]
                refine wpAnyIn_take (i := 6) (v := ?_) rfl rfl (by kernel_rfl) (by kernel_rfl) (by kernel_rfl) (fun _ _ _ h => h) ⟨Or.inl ⟨by rfl, ?_⟩, fun _ => rfl⟩ ?_
                rotate_left 1
                · intro w9
                  go_simp <;> with_reducible rfl
                try simp only [Act.put, List.getElem_toArray, List.getElem_cons_zero, List.getElem_cons_succ, List.setIfInBounds_toArray, List.set_cons_zero, List.set_cons_succ]
                refine wpAnyIn_ready (rs := [7]) (by kernel_rfl) (by simp) ?_
                refine AllReadyIn.cons rfl (fun K hK => ?_) AllReadyIn.nil
                go_simp
                gi_wp2_with fail
                refine HR1.out.mono ?_
                rintro e W1 (⟨rfl, hJ1, hk1⟩ | ⟨rfl, hx1⟩)
                · refine hK _ _ ?_
                  clear hK K
                  try simp only [Act.put, List.getElem_toArray, List.getElem_cons_zero, List.getElem_cons_succ, List.setIfInBounds_toArray, List.set_cons_zero, List.set_cons_succ]
                  refine wpAnyIn_take (i := 8) (v := ?_) rfl rfl (by kernel_rfl) (by kernel_rfl) (by kernel_rfl) (fun _ _ _ h => h) ⟨Or.inl ⟨by rfl, ?_⟩, fun _ => rfl⟩ ?_
                  rotate_left 1
                  · intro w9
                    go_simp <;> with_reducible rfl
                  try simp only [Act.put, List.getElem_toArray, List.getElem_cons_zero, List.getElem_cons_succ, List.setIfInBounds_toArray, List.set_cons_zero, List.set_cons_succ]
                  refine wpAnyIn_done (by kernel_rfl) ?_ _
                  gi_wp2
                  go_roundw
                  case rel => exact ⟨k + 1, pre ++ [((⟨⟨#[]⟩, [], ⟨#[]⟩⟩, .slice none 0 0), false)], by rw [List.length_append, HPL.out]; rfl, by omega, by go_num, hJ1, Lib.hid (HREL.out.snoc (HGD.out)), Lib.hid (HK.out.trans ((KeepL.below HST.out HBN.out.1 HBN.out.2).trans hk1))⟩
                  case measure => simp [RowKit.intOf]; omega
                · refine hK _ _ ?_
                  clear hK K
                  try simp only [Act.put, List.getElem_toArray, List.getElem_cons_zero, List.getElem_cons_succ, List.setIfInBounds_toArray, List.set_cons_zero, List.set_cons_succ]
                  refine wpAnyIn_take (i := 8) (v := ?_) rfl rfl (by kernel_rfl) (by kernel_rfl) (by kernel_rfl) (fun _ _ _ h => h) ⟨Or.inl ⟨by rfl, ?_⟩, fun _ => rfl⟩ ?_
                  rotate_left 1
                  · intro w9
                    go_simp <;> with_reducible rfl
                  try simp only [Act.put, List.getElem_toArray, List.getElem_cons_zero, List.getElem_cons_succ, List.setIfInBounds_toArray, List.set_cons_zero, List.set_cons_succ]
                  refine wpAnyIn_done (by kernel_rfl) ?_ _
                  gi_wp2
                  refine bodyPost_ret (results_none rfl _ _ _) rfl ?_
                  exact ⟨⟨_, rfl⟩, .inr ⟨_, HREL.out.snoc (HGD.out), hx1⟩⟩
              · go_simp
                refine ⟨trivial, ?_⟩
                refine hK _ _ ?_
                clear hK K
                try simp only [Act.put, List.getElem_toArray, List.getElem_cons_zero, List.getElem_cons_succ, List.setIfInBounds_toArray, List.set_cons_zero, List.set_cons_succ]
                refine wpAnyIn_take (i := 6) (v := ?_) rfl rfl (by kernel_rfl) (by kernel_rfl) (by kernel_rfl) (fun _ _ _ h => h) ⟨Or.inl ⟨by rfl, ?_⟩, fun _ => rfl⟩ ?_
                rotate_left 1
                · intro w9
                  go_simp <;> with_reducible rfl
                try simp only [Act.put, List.getElem_toArray, List.getElem_cons_zero, List.getElem_cons_succ, List.setIfInBounds_toArray, List.set_cons_zero, List.set_cons_succ]
                refine wpAnyIn_ready (rs := [1]) (by kernel_rfl) (by simp) ?_
                refine AllReadyIn.cons rfl (fun K hK => ?_) AllReadyIn.nil
                go_simp
                refine hK _ _ ?_
                clear hK K
                try simp only [Act.put, List.getElem_toArray, List.getElem_cons_zero, List.getElem_cons_succ, List.setIfInBounds_toArray, List.set_cons_zero, List.set_cons_succ]
                refine wpAnyIn_ready (rs := [7]) (by kernel_rfl) (by simp) ?_
                refine AllReadyIn.cons rfl (fun K hK => ?_) AllReadyIn.nil
                go_simp
                gi_wp2_with fail
                refine HR1.out.mono ?_
                rintro e W1 (⟨rfl, hJ1, hk1⟩ | ⟨rfl, hx1⟩)
                · refine hK _ _ ?_
                  clear hK K
                  try simp only [Act.put, List.getElem_toArray, List.getElem_cons_zero, List.getElem_cons_succ, List.setIfInBounds_toArray, List.set_cons_zero, List.set_cons_succ]
                  refine wpAnyIn_take (i := 8) (v := ?_) rfl rfl (by kernel_rfl) (by kernel_rfl) (by kernel_rfl) (fun _ _ _ h => h) ⟨Or.inl ⟨by rfl, ?_⟩, fun _ => rfl⟩ ?_
                  rotate_left 1
                  · intro w9
                    go_simp <;> with_reducible rfl
                  try simp only [Act.put, List.getElem_toArray, List.getElem_cons_zero, List.getElem_cons_succ, List.setIfInBounds_toArray, List.set_cons_zero, List.set_cons_succ]
                  refine wpAnyIn_done (by kernel_rfl) ?_ _
                  gi_wp2
                  go_roundw
                  case rel => exact ⟨k + 1, pre ++ [((⟨⟨#[]⟩, [], ⟨#[]⟩⟩, .slice none 0 0), false)], by rw [List.length_append, HPL.out]; rfl, by omega, by go_num, hJ1, Lib.hid (HREL.out.snoc (HGD.out)), Lib.hid (HK.out.trans ((KeepL.below HST.out HBN.out.1 HBN.out.2).trans hk1))⟩
                  case measure => simp [RowKit.intOf]; omega
                · refine hK _ _ ?_
                  clear hK K
                  try simp only [Act.put, List.getElem_toArray, List.getElem_cons_zero, List.getElem_cons_succ, List.setIfInBounds_toArray, List.set_cons_zero, List.set_cons_succ]
                  refine wpAnyIn_take (i := 8) (v := ?_) rfl rfl (by kernel_rfl) (by kernel_rfl) (by kernel_rfl) (fun _ _ _ h => h) ⟨Or.inl ⟨by rfl, ?_⟩, fun _ => rfl⟩ ?_
                  rotate_left 1
                  · intro w9
                    go_simp <;> with_reducible rfl
                  try simp only [Act.put, List.getElem_toArray, List.getElem_cons_zero, List.getElem_cons_succ, List.setIfInBounds_toArray, List.set_cons_zero, List.set_cons_succ]
                  refine wpAnyIn_done (by kernel_rfl) ?_ _
                  gi_wp2
                  refine bodyPost_ret (results_none rfl _ _ _) rfl ?_
                  exact ⟨⟨_, rfl⟩, .inr ⟨_, HREL.out.snoc (HGD.out), hx1⟩⟩
            | false =>
              clear hlo
              obtain ⟨w2, hw2⟩ : ∃ W, (wr.alloc (.cells #[.bool true, .string ⟨y.text.toArray⟩, .slice (some ⟨gc, oc, none⟩) 3 n1] 51)).alloc (.cells #[.string ⟨#[]⟩, .slice none 0 0, .string ⟨#[]⟩] 64) = W := ⟨_, rfl⟩
              have hlo2 : Below wr.heap.size wr w2 := by rw [← hw2]; exact laid2 _ _ _
              have HLO := Lib.hid hlo2
              have HL2 := Lib.hid (show HasCells w2 (wr.heap.size + 1) [.string ⟨#[]⟩, .slice none 0 0, .string ⟨#[]⟩] 64 from by
                rw [← hw2]
                have h := HasCells.new (wr.alloc (.cells #[.bool true, .string ⟨y.text.toArray⟩, .slice (some ⟨gc, oc, none⟩) 3 n1] 51)) [.string ⟨#[]⟩, .slice none 0 0, .string ⟨#[]⟩] 64
                rw [World.size_alloc] at h
                exact h)
              have HI2 := Lib.hid (show HasCells w2 wr.heap.size [.bool true, .string ⟨y.text.toArray⟩, .slice (some ⟨gc, oc, none⟩) 3 n1] 51 from by
                rw [← hw2]
                exact (HasCells.new wr [.bool true, .string ⟨y.text.toArray⟩, .slice (some ⟨gc, oc, none⟩) 3 n1] 51).alloc _)
              have HT := Lib.hid (texts_lit z1 mc HMC.out qc nc w2 (HVC.out w2 hlo2) hzl)
              have HW2 := Lib.hid hw2
              clear hw2 hlo2 hl0 hl2
              gi_wp2_with fail
              refine ⟨trivial, ?_⟩
              gi_at_call 46
              rw [HW2.out]
              refine (callsIn_wide.2 HT.out).mono ?_
              clear y00 y01 y10 y11 y12 y20 y21
              rintro e w3 ⟨⟨tv, ok, rfl, ⟨pt, mt, ct, rfl⟩, htv⟩, hb3⟩
              have HTV := Lib.hid htv
              have HLO3 := Lib.hid (HLO.out.trans (hb3.mono HLO.out.size))
              have HL3 := Lib.hid (HL2.out.after hb3)
              have HI3 := Lib.hid (HI2.out.after hb3)
              have HZ3 := Lib.hid (show wr.heap.size + 2 ≤ w2.heap.size from by have := HL2.out.lt; omega)
              have HS3 := Lib.hid hb3.size
              clear htv hb3
              have d0 := HL3.out.cell (j := 1) rfl
              have d1 := HL3.out.frozen 1
              have hL4 := HL3.out.set 1 (.slice pt mt ct)
              gi_wp2
              obtain ⟨w4, hw4⟩ : ∃ W, w3.setCell ⟨wr.heap.size + 1, 1, none⟩ (.slice pt mt ct) = W := ⟨_, rfl⟩
              rw [hw4] at hL4 ⊢
              have HL4 := Lib.hid (show HasCells w4 (wr.heap.size + 1) [.string ⟨#[]⟩, .slice pt mt ct, .string ⟨#[]⟩] 64 from hL4)
              have HI4 := Lib.hid (show HasCells w4 wr.heap.size [.bool true, .string ⟨y.text.toArray⟩, .slice (some ⟨gc, oc, none⟩) 3 n1] 51 from by rw [← hw4]; exact HI3.out.setOther (by omega) _)
              have HLO4 := Lib.hid (show Below wr.heap.size wr w4 from by rw [← hw4]; exact HLO3.out.setCell (p := ⟨wr.heap.size + 1, 1, none⟩) (show wr.heap.size ≤ wr.heap.size + 1 by omega) _)
              have HK4 := Lib.hid (show ∀ g', g' ≠ wr.heap.size + 1 → w4.heap[g']? = w3.heap[g']? from fun g' h => by rw [← hw4]; exact Below.heap_setCell _ ⟨wr.heap.size + 1, 1, none⟩ _ g' h)
              have HZ4 := Lib.hid (show w4.heap.size = w3.heap.size from by rw [← hw4, World.size_setCell])
              clear hL4 hw4 d0 d1 HL3 HI3 HL2 HI2
              refine wpIn_wide.2 ?_
              have hF := HE.out w4.drew HLO4.out.drew
              have HSS := Lib.hid (show w4.drew.cell? ⟨wr.heap.size, 2, none⟩ = some (.slice (some ⟨gc, oc, none⟩) 3 n1) ∧ w4.drew.cell? ⟨gc, oc + 1, none⟩ = some (.string ⟨z0.text.toArray⟩) ∧ w4.drew.cell? ⟨gc, oc + 7, none⟩ = some (.string ⟨z2.text.toArray⟩) from ⟨(HI4.out.kept rfl : HasCells w4.drew _ _ _).cell (j := 2) rfl, hF.1.2, hF.2.2.2⟩)
              clear hF
              have HNE := Lib.hid (show gc ≠ wr.heap.size + 1 ∧ wr.heap.size ≠ wr.heap.size + 1 from ⟨by have := HGW.out; omega, by omega⟩)
              refine wp_region_held_drew (S := (fun W => W.cell? ⟨wr.heap.size, 2, none⟩ = some (.slice (some ⟨gc, oc, none⟩) 3 n1) ∧ W.cell? ⟨gc, oc + 1, none⟩ = some (.string ⟨z0.text.toArray⟩) ∧ W.cell? ⟨gc, oc + 7, none⟩ = some (.string ⟨z2.text.toArray⟩))) (by kernel_rfl) (HSS.out) (fun hHeld => ?_)
              refine wpAnyH_take (i := 0) (v := ?_) rfl (by kernel_rfl) (by kernel_rfl) (by kernel_rfl) (fun _ _ _ h => h) (.inl ⟨by rfl, ?_⟩) (by assumption) ?_
              rotate_left 1
              · intro w0 hSw
                go_simp <;> with_reducible rfl
              try simp only [Act.put, List.getElem_toArray, List.getElem_cons_zero, List.setIfInBounds_toArray, List.set_cons_zero, List.set_cons_succ]
              refine wpAnyH_take (i := 1) (v := ?_) rfl (by kernel_rfl) (by kernel_rfl) (by kernel_rfl) (fun _ _ _ h => h) (.inl ⟨by rfl, ?_⟩) (by assumption) ?_
              rotate_left 1
              · intro w0 hSw
                obtain ⟨v0, v1, v2⟩ := hSw
                go_simp <;> with_reducible rfl
              try simp only [Act.put, List.getElem_toArray, List.getElem_cons_zero, List.getElem_cons_succ, List.setIfInBounds_toArray, List.set_cons_zero, List.set_cons_succ]
              refine wpAnyH_take (i := 2) (v := ?_) rfl (by kernel_rfl) (by kernel_rfl) (by kernel_rfl) (fun _ _ _ h => h) (.inl ⟨by rfl, ?_⟩) (by assumption) ?_
              rotate_left 1
              · intro w0 hSw
                go_simp <;> with_reducible rfl
              try simp only [Act.put, List.getElem_toArray, List.getElem_cons_zero, List.getElem_cons_succ, List.setIfInBounds_toArray, List.set_cons_zero, List.set_cons_succ]
              refine wpAnyH_take (i := 3) (v := ?_) rfl (by kernel_rfl) (by kernel_rfl) (by kernel_rfl) (fun _ _ _ h => h) (.inl ⟨by rfl, ?_⟩) (by assumption) ?_
              rotate_left 1
              · intro w0 hSw
                go_simp <;> with_reducible rfl
              try simp only [Act.put, List.getElem_toArray, List.getElem_cons_zero, List.getElem_cons_succ, List.setIfInBounds_toArray, List.set_cons_zero, List.set_cons_succ]
              refine wpAnyH_take (i := 4) (v := ?_) rfl (by kernel_rfl) (by kernel_rfl) (by kernel_rfl) (fun _ _ _ h => h) (.inl ⟨by rfl, ?_⟩) (by assumption) ?_
              rotate_left 1
              · intro w0 hSw
                obtain ⟨v0, v1, v2⟩ := hSw
                go_simp <;> with_reducible rfl
              try simp only [Act.put, List.getElem_toArray, List.getElem_cons_zero, List.getElem_cons_succ, List.setIfInBounds_toArray, List.set_cons_zero, List.set_cons_succ]
              refine wpAnyH_take (i := 5) (v := ?_) rfl (by kernel_rfl) (by kernel_rfl) (by kernel_rfl) (fun _ _ _ h => h) (.inl ⟨by rfl, ?_⟩) (by assumption) ?_
              rotate_left 1
              · intro w0 hSw
                go_simp <;> with_reducible rfl
              try simp only [Act.put, List.getElem_toArray, List.getElem_cons_zero, List.getElem_cons_succ, List.setIfInBounds_toArray, List.set_cons_zero, List.set_cons_succ]
              refine wpAnyH_take (i := 6) (v := ?_) rfl (by kernel_rfl) (by kernel_rfl) (by kernel_rfl) (fun _ _ _ h => h) (.inl ⟨by rfl, ?_⟩) (by assumption) ?_
              rotate_left 1
              · intro w0 hSw
                obtain ⟨v0, v1, v2⟩ := hSw
                go_simp <;> with_reducible rfl
              try simp only [Act.put, List.getElem_toArray, List.getElem_cons_zero, List.getElem_cons_succ, List.setIfInBounds_toArray, List.set_cons_zero, List.set_cons_succ]
              refine wpAnyH_take (i := 7) (v := ?_) rfl (by kernel_rfl) (by kernel_rfl) (by kernel_rfl) (fun _ _ _ h => h) (.inl ⟨by rfl, ?_⟩) (by assumption) ?_
              rotate_left 1
              · intro w0 hSw
                go_simp <;> with_reducible rfl
              try simp only [Act.put, List.getElem_toArray, List.getElem_cons_zero, List.getElem_cons_succ, List.setIfInBounds_toArray, List.set_cons_zero, List.set_cons_succ]
              refine wpAnyH_take (i := 8) (v := ?_) rfl (by kernel_rfl) (by kernel_rfl) (by kernel_rfl) (fun _ _ _ h => h) (.inl ⟨by rfl, ?_⟩) (by assumption) ?_
              rotate_left 1
              · intro w0 hSw
                go_simp <;> with_reducible rfl
              try simp only [Act.put, List.getElem_toArray, List.getElem_cons_zero, List.getElem_cons_succ, List.setIfInBounds_toArray, List.set_cons_zero, List.set_cons_succ]
              refine wpAnyH_take (i := 9) (v := ?_) rfl (by kernel_rfl) (by kernel_rfl) (by kernel_rfl) (fun _ _ _ h => h) (.inl ⟨by rfl, ?_⟩) (by assumption) ?_
              rotate_left 1
              · intro w0 hSw
                obtain ⟨v0, v1, v2⟩ := hSw
                go_simp <;> with_reducible rfl
              try simp only [Act.put, List.getElem_toArray, List.getElem_cons_zero, List.getElem_cons_succ, List.setIfInBounds_toArray, List.set_cons_zero, List.set_cons_succ]
              refine wpAnyH_take (i := 10) (v := ?_) rfl (by kernel_rfl) (by kernel_rfl) (by kernel_rfl) (fun _ _ _ h => h) (.inl ⟨by rfl, ?_⟩) (by assumption) ?_
              rotate_left 1
              · intro w0 hSw
                go_simp <;> with_reducible rfl
              try simp only [Act.put, List.getElem_toArray, List.getElem_cons_zero, List.getElem_cons_succ, List.setIfInBounds_toArray, List.set_cons_zero, List.set_cons_succ]
              have hL5 : HasCells w4.drew (wr.heap.size + 1) [.string ⟨#[]⟩, .slice pt mt ct, .string ⟨#[]⟩] 64 := HL4.out.kept rfl
              have d0 := hL5.cell (j := 0) rfl
              have d1 := hL5.frozen 0
              refine wpAnyH_ready (rs := [11]) (by kernel_rfl) (by simp) ?_
              refine AllReadyH.cons rfl (fun K hK => ?_) AllReadyH.nil
              go_simp
              refine hK.out _ _ (⟨cell_otherL hHeld.1 HNE.out.2, cell_otherL hHeld.2.1 HNE.out.1, cell_otherL hHeld.2.2 HNE.out.1⟩) (fun hHeld => ?_)
              clear hK K
              clear d0 d1
              have hL6 : HasCells (w4.setCell ⟨wr.heap.size + 1, 0, none⟩ (.string ⟨z0.text.toArray⟩)).drew (wr.heap.size + 1) [.string ⟨z0.text.toArray⟩, .slice pt mt ct, .string ⟨#[]⟩] 64 := (HL4.out.set 0 (.string ⟨z0.text.toArray⟩)).kept rfl
              have d0 := hL6.cell (j := 2) rfl
              have d1 := hL6.frozen 2
              refine wpAnyH_take (i := 12) (v := ?_) rfl (by kernel_rfl) (by kernel_rfl) (by kernel_rfl) (fun _ _ _ h => h) (.inl ⟨by rfl, ?_⟩) (by assumption) ?_
              rotate_left 1
              · intro w0 hSw
                go_simp <;> with_reducible rfl
              try simp only [Act.put, List.getElem_toArray, List.getElem_cons_zero, List.getElem_cons_succ, List.setIfInBounds_toArray, List.set_cons_zero, List.set_cons_succ]
              refine wpAnyH_ready (rs := [13]) (by kernel_rfl) (by simp) ?_
              refine AllReadyH.cons rfl (fun K hK => ?_) AllReadyH.nil
              go_simp
              refine hK.out _ _ (⟨cell_otherL hHeld.1 HNE.out.2, cell_otherL hHeld.2.1 HNE.out.1, cell_otherL hHeld.2.2 HNE.out.1⟩) (fun hHeld => ?_)
              clear hK K
              have hL7 : HasCells ((w4.setCell ⟨wr.heap.size + 1, 0, none⟩ (.string ⟨z0.text.toArray⟩)).setCell ⟨wr.heap.size + 1, 2, none⟩ (.string ⟨z2.text.toArray⟩)).drew (wr.heap.size + 1) [.string ⟨z0.text.toArray⟩, .slice pt mt ct, .string ⟨z2.text.toArray⟩] 64 := ((HL4.out.set 0 (.string ⟨z0.text.toArray⟩)).set 2 (.string ⟨z2.text.toArray⟩)).kept rfl
              refine wpAnyH_done (by kernel_rfl) ?_ 0
              clear d0 d1 hHeld
              obtain ⟨w5, hw5⟩ : ∃ W, ((w4.setCell ⟨wr.heap.size + 1, 0, none⟩ (.string ⟨z0.text.toArray⟩)).setCell ⟨wr.heap.size + 1, 2, none⟩ (.string ⟨z2.text.toArray⟩)).drew = W := ⟨_, rfl⟩
              rw [hw5] at hL7 ⊢
              have HL7 := Lib.hid (show HasCells w5 (wr.heap.size + 1) [.string ⟨z0.text.toArray⟩, .slice pt mt ct, .string ⟨z2.text.toArray⟩] 64 from hL7)
              have HLO5 := Lib.hid (show Below wr.heap.size wr w5 from by rw [← hw5]; exact ((HLO4.out.setCell (p := ⟨wr.heap.size + 1, 0, none⟩) (show wr.heap.size ≤ wr.heap.size + 1 by omega) _).setCell (p := ⟨wr.heap.size + 1, 2, none⟩) (show wr.heap.size ≤ wr.heap.size + 1 by omega) _).drew)
              have HK5 := Lib.hid (show ∀ g', g' ≠ wr.heap.size + 1 → w5.heap[g']? = w3.heap[g']? from fun g' h => by rw [← hw5]; exact (Below.heap_setCell _ ⟨wr.heap.size + 1, 2, none⟩ _ g' h).trans ((Below.heap_setCell _ ⟨wr.heap.size + 1, 0, none⟩ _ g' h).trans (HK4.out g' h)))
              have HZ5 := Lib.hid (show w5.heap.size = w3.heap.size from by rw [← hw5]; show ((w4.setCell _ _).setCell _ _).heap.size = _; rw [World.size_setCell, World.size_setCell]; exact HZ4.out)
              clear hL5 hL6 hL7 hw5
              gi_wp2
              cases ok with
              | false =>
                have hlb : logB y = false := by rw [HLB.out, ← HTV.out.1]; rfl
                have hst : Below wr.heap.size wr w5.drew := (HLO5.out).drew
                have hgd : GoodL ys pre ((⟨⟨z0.text.toArray⟩, [], ⟨z2.text.toArray⟩⟩, .slice pt mt ct), false) wr w5.drew := ⟨by rw [HPL.out, HN.out]; exact hlt, ⟨_, _, _, rfl⟩, by rw [HPL.out, HYI.out]; exact (hlb).symm, fun h => by cases h⟩
                obtain ⟨f1, t1, a1, b1, hy1, hR1⟩ := hY pre ((⟨⟨z0.text.toArray⟩, [], ⟨z2.text.toArray⟩⟩, .slice pt mt ct), false) wr w5.drew hJ0 hst hgd
                simp only [encL] at hy1
                have HST := Lib.hid hst
                have HGD := Lib.hid hgd
                have HR1 := Lib.hid hR1
                have q0 : w5.drew.cell? ⟨wr.heap.size + 1, 0, none⟩ = some (.string ⟨z0.text.toArray⟩) := HL7.out.cell (j := 0) rfl
                have q1 : w5.drew.cell? ⟨wr.heap.size + 1, 1, none⟩ = some (.slice pt mt ct) := HL7.out.cell (j := 1) rfl
                have q2 : w5.drew.cell? ⟨wr.heap.size + 1, 2, none⟩ = some (.string ⟨z2.text.toArray⟩) := HL7.out.cell (j := 2) rfl
                clear hst hgd hR1
                refine wpIn_region_any (by kernel_rfl) ?_
                try (change wpAnyIn _ _ _ _ _ _ _ _ _ (World.drew _))
                refine wpAnyIn_take (i := 0) (v := ?_) rfl rfl (by kernel_rfl) (by kernel_rfl) (by kernel_rfl) (fun _ _ _ h => h) ⟨Or.inl ⟨by rfl, ?_⟩, fun _ => rfl⟩ ?_
                rotate_left 1
                · intro w9
                  go_simp <;> with_reducible rfl
                try simp only [Act.put, List.getElem_toArray, List.getElem_cons_zero, List.setIfInBounds_toArray, List.set_cons_zero, List.set_cons_succ]
                refine wpAnyIn_take (i := 2) (v := ?_) rfl rfl (by kernel_rfl) (by kernel_rfl) (by kernel_rfl) (fun _ _ _ h => h) ⟨Or.inl ⟨by rfl, ?_⟩, fun _ => rfl⟩ ?_
                rotate_left 1
                · intro w9
                  go_simp <;> with_reducible rfl
                try simp only [Act.put, List.getElem_toArray, List.getElem_cons_zero, List.getElem_cons_succ, List.setIfInBounds_toArray, List.set_cons_zero, List.set_cons_succ]
                refine wpAnyIn_take (i := 3) (v := ?_) rfl rfl (by kernel_rfl) (by kernel_rfl) (by kernel_rfl) (fun _ _ _ h => h) ⟨Or.inl ⟨by rfl, ?_⟩, fun _ => rfl⟩ ?_
                rotate_left 1
                · intro w9
                  go_simp <;> with_reducible rfl
                try simp only [Act.put, List.getElem_toArray, List.getElem_cons_zero, List.getElem_cons_succ, List.setIfInBounds_toArray, List.set_cons_zero, List.set_cons_succ]
                refine wpAnyIn_take (i := 4) (v := undef) rfl rfl (by kernel_rfl) (by kernel_rfl) (by kernel_rfl) (fun _ _ _ h => h) ⟨Or.inr ⟨by rfl, rfl⟩, fun _ => rfl⟩ ?_
                try simp only [Act.put, List.getElem_toArray, List.getElem_cons_zero, List.getElem_cons_succ, List.setIfInBounds_toArray, List.set_cons_zero, List.set_cons_succ]
                refine wpAnyIn_ready (rs := [1, 5]) (by kernel_rfl) (by simp) ?_
                refine AllReadyIn.cons rfl (fun K hK => ?_) (AllReadyIn.cons rfl (fun K hK => ?_) AllReadyIn.nil)
                · go_simp
                  refine hK _ _ ?_
                  clear hK K
                  try simp only [Act.put, List.getElem_toArray, List.getElem_cons_zero, List.getElem_cons_succ, List.setIfInBounds_toArray, List.set_cons_zero, List.set_cons_succ]
                  refine wpAnyIn_ready (rs := [5]) (by kernel_rfl) (by simp) ?_
                  refine AllReadyIn.cons rfl (fun K hK => ?_) AllReadyIn.nil
                  go_simp
                  refine ⟨trivial, ?_⟩
                  refine hK _ _ ?_
                  clear hK K
                  try simp only [Act.put, List.getElem_toArray, List.getElem_cons_zero, List.getElem_cons_succ, List.setIfInBounds_toArray, List.set_cons_zero, List.set_cons_succ]
                  refine wpAnyIn_take (i := 6) (v := ?_) rfl rfl (by kernel_rfl) (by kernel_rfl) (by kernel_rfl) (fun _ _ _ h => h) ⟨Or.inl ⟨by rfl, ?_⟩, fun _ => rfl⟩ ?_
                  rotate_left 1
                  · intro w9
                    go_simp <;> with_reducible rfl
                  try simp only [Act.put, List.getElem_toArray, List.getElem_cons_zero, List.getElem_cons_succ, List.setIfInBounds_toArray, List.set_cons_zero, List.set_cons_succ]
                  refine wpAnyIn_ready (rs := [7]) (by kernel_rfl) (by simp) ?_
                  refine AllReadyIn.cons rfl (fun K hK => ?_) AllReadyIn.nil
                  go_simp
                  gi_wp2_with fail
                  refine HR1.out.mono ?_
                  rintro e W1 (⟨rfl, hJ1, hk1⟩ | ⟨rfl, hx1⟩)
                  · refine hK _ _ ?_
                    clear hK K
                    try simp only [Act.put, List.getElem_toArray, List.getElem_cons_zero, List.getElem_cons_succ, List.setIfInBounds_toArray, List.set_cons_zero, List.set_cons_succ]
                    refine wpAnyIn_take (i := 8) (v := ?_) rfl rfl (by kernel_rfl) (by kernel_rfl) (by kernel_rfl) (fun _ _ _ h => h) ⟨Or.inl ⟨by rfl, ?_⟩, fun _ => rfl⟩ ?_
                    rotate_left 1
                    · intro w9
                      go_simp <;> with_reducible rfl
                    try simp only [Act.put, List.getElem_toArray, List.getElem_cons_zero, List.getElem_cons_succ, List.setIfInBounds_toArray, List.set_cons_zero, List.set_cons_succ]
                    refine wpAnyIn_done (by kernel_rfl) ?_ _
                    gi_wp2
                    go_roundw
                    case rel => exact ⟨k + 1, pre ++ [((⟨⟨z0.text.toArray⟩, [], ⟨z2.text.toArray⟩⟩, .slice pt mt ct), false)], by rw [List.length_append, HPL.out]; rfl, by omega, by go_num, hJ1, Lib.hid (HREL.out.snoc (HGD.out)), Lib.hid (HK.out.trans ((KeepL.below HST.out HBN.out.1 HBN.out.2).trans hk1))⟩
                    case measure => simp [RowKit.intOf]; omega
                  · refine hK _ _ ?_
                    clear hK K
                    try simp only [Act.put, List.getElem_toArray, List.getElem_cons_zero, List.getElem_cons_succ, List.setIfInBounds_toArray, List.set_cons_zero, List.set_cons_succ]
                    refine wpAnyIn_take (i := 8) (v := ?_) rfl rfl (by kernel_rfl) (by kernel_rfl) (by kernel_rfl) (fun _ _ _ h => h) ⟨Or.inl ⟨by rfl, ?_⟩, fun _ => rfl⟩ ?_
                    rotate_left 1
                    · intro w9
                      go_simp <;> with_reducible rfl
                    try simp only [Act.put, List.getElem_toArray, List.getElem_cons_zero, List.getElem_cons_succ, List.setIfInBounds_toArray, List.set_cons_zero, List.set_cons_succ]
                    refine wpAnyIn_done (by kernel_rfl) ?_ _
                    gi_wp2
                    refine bodyPost_ret (results_none rfl _ _ _) rfl ?_
                    exact ⟨⟨_, rfl⟩, .inr ⟨_, HREL.out.snoc (HGD.out), hx1⟩⟩
                · go_simp
                  refine ⟨trivial, ?_⟩
                  refine hK _ _ ?_
                  clear hK K
                  try simp only [Act.put, List.getElem_toArray, List.getElem_cons_zero, List.getElem_cons_succ, List.setIfInBounds_toArray, List.set_cons_zero, List.set_cons_succ]
                  refine wpAnyIn_take (i := 6) (v := ?_) rfl rfl (by kernel_rfl) (by kernel_rfl) (by kernel_rfl) (fun _ _ _ h => h) ⟨Or.inl ⟨by rfl, ?_⟩, fun _ => rfl⟩ ?_
                  rotate_left 1
                  · intro w9
                    go_simp <;> with_reducible rfl
                  try simp only [Act.put, List.getElem_toArray, List.getElem_cons_zero, List.getElem_cons_succ, List.setIfInBounds_toArray, List.set_cons_zero, List.set_cons_succ]
                  refine wpAnyIn_ready (rs := [1]) (by kernel_rfl) (by simp) ?_
                  refine AllReadyIn.cons rfl (fun K hK => ?_) AllReadyIn.nil
                  go_simp
                  refine hK _ _ ?_
                  clear hK K
                  try simp only [Act.put, List.getElem_toArray, List.getElem_cons_zero, List.getElem_cons_succ, List.setIfInBounds_toArray, List.set_cons_zero, List.set_cons_succ]
                  refine wpAnyIn_ready (rs := [7]) (by kernel_rfl) (by simp) ?_
                  refine AllReadyIn.cons rfl (fun K hK => ?_) AllReadyIn.nil
                  go_simp
                  gi_wp2_with fail
                  refine HR1.out.mono ?_
                  rintro e W1 (⟨rfl, hJ1, hk1⟩ | ⟨rfl, hx1⟩)
                  · refine hK _ _ ?_
                    clear hK K
                    try simp only [Act.put, List.getElem_toArray, List.getElem_cons_zero, List.getElem_cons_succ, List.setIfInBounds_toArray, List.set_cons_zero, List.set_cons_succ]
                    refine wpAnyIn_take (i := 8) (v := ?_) rfl rfl (by kernel_rfl) (by kernel_rfl) (by kernel_rfl) (fun _ _ _ h => h) ⟨Or.inl ⟨by rfl, ?_⟩, fun _ => rfl⟩ ?_
                    rotate_left 1
                    · intro w9
                      go_simp <;> with_reducible rfl
                    try simp only [Act.put, List.getElem_toArray, List.getElem_cons_zero, List.getElem_cons_succ, List.setIfInBounds_toArray, List.set_cons_zero, List.set_cons_succ]
                    refine wpAnyIn_done (by kernel_rfl) ?_ _
                    gi_wp2
                    go_roundw
                    case rel => exact ⟨k + 1, pre ++ [((⟨⟨z0.text.toArray⟩, [], ⟨z2.text.toArray⟩⟩, .slice pt mt ct), false)], by rw [List.length_append, HPL.out]; rfl, by omega, by go_num, hJ1, Lib.hid (HREL.out.snoc (HGD.out)), Lib.hid (HK.out.trans ((KeepL.below HST.out HBN.out.1 HBN.out.2).trans hk1))⟩
                    case measure => simp [RowKit.intOf]; omega
                  · refine hK _ _ ?_
                    clear hK K
                    try simp only [Act.put, List.getElem_toArray, List.getElem_cons_zero, List.getElem_cons_succ, List.setIfInBounds_toArray, List.set_cons_zero, List.set_cons_succ]
                    refine wpAnyIn_take (i := 8) (v := ?_) rfl rfl (by kernel_rfl) (by kernel_rfl) (by kernel_rfl) (fun _ _ _ h => h) ⟨Or.inl ⟨by rfl, ?_⟩, fun _ => rfl⟩ ?_
                    rotate_left 1
                    · intro w9
                      go_simp <;> with_reducible rfl
                    try simp only [Act.put, List.getElem_toArray, List.getElem_cons_zero, List.getElem_cons_succ, List.setIfInBounds_toArray, List.set_cons_zero, List.set_cons_succ]
                    refine wpAnyIn_done (by kernel_rfl) ?_ _
                    gi_wp2
                    refine bodyPost_ret (results_none rfl _ _ _) rfl ?_
                    exact ⟨⟨_, rfl⟩, .inr ⟨_, HREL.out.snoc (HGD.out), hx1⟩⟩
              | true =>
                have hs5 : StrsIn w5.drew (fun j => w2.heap.size ≤ j) (.slice pt mt ct) (z1.list.map bytesT) := (HTV.out.2 rfl).kept (by show w3.heap.size ≤ w5.heap.size; have := HZ5.out; omega) (fun q hq _ => HK5.out q (by have := HZ3.out; omega)) (fun q hq _ => hq)
                have hmt : (z1.list.map bytesT).length = mt := by
                  obtain ⟨pp, cc, e⟩ := hs5.form
                  cases e; rfl
                obtain ⟨rl, hrl⟩ : ∃ b, rightLog ⟨⟨z0.text.toArray⟩, z1.list.map bytesT, ⟨z2.text.toArray⟩⟩ = b := ⟨_, rfl⟩
                have HIS := Lib.hid (isLog_lit ⟨⟨z0.text.toArray⟩, z1.list.map bytesT, ⟨z2.text.toArray⟩⟩ rl hrl pt mt ct hmt w5.drew hs5.strs (by rw [← hmt, List.length_map, HMC.out]; exact hzl))
                have HS5 := Lib.hid hs5
                have hlb : logB y = rl := by rw [HLB.out, ← HTV.out.1, HLI.out, hrl]; rfl
                have HLBB := Lib.hid hlb
                clear hlb hs5 hrl hmt
                have q0 : w5.drew.cell? ⟨wr.heap.size + 1, 0, none⟩ = some (.string ⟨z0.text.toArray⟩) := HL7.out.cell (j := 0) rfl
                have q1 : w5.drew.cell? ⟨wr.heap.size + 1, 1, none⟩ = some (.slice pt mt ct) := HL7.out.cell (j := 1) rfl
                have q2 : w5.drew.cell? ⟨wr.heap.size + 1, 2, none⟩ = some (.string ⟨z2.text.toArray⟩) := HL7.out.cell (j := 2) rfl
                refine wpIn_region_any (by kernel_rfl) ?_
                try (change wpAnyIn _ _ _ _ _ _ _ _ _ (World.drew _))
                refine wpAnyIn_take (i := 0) (v := ?_) rfl rfl (by kernel_rfl) (by kernel_rfl) (by kernel_rfl) (fun _ _ _ h => h) ⟨Or.inl ⟨by rfl, ?_⟩, fun _ => rfl⟩ ?_
                rotate_left 1
                · intro w9
                  go_simp <;> with_reducible rfl
                try simp only [Act.put, List.getElem_toArray, List.getElem_cons_zero, List.setIfInBounds_toArray, List.set_cons_zero, List.set_cons_succ]
                refine wpAnyIn_take (i := 2) (v := ?_) rfl rfl (by kernel_rfl) (by kernel_rfl) (by kernel_rfl) (fun _ _ _ h => h) ⟨Or.inl ⟨by rfl, ?_⟩, fun _ => rfl⟩ ?_
                rotate_left 1
                · intro w9
                  go_simp <;> with_reducible rfl
                try simp only [Act.put, List.getElem_toArray, List.getElem_cons_zero, List.getElem_cons_succ, List.setIfInBounds_toArray, List.set_cons_zero, List.set_cons_succ]
                refine wpAnyIn_take (i := 3) (v := ?_) rfl rfl (by kernel_rfl) (by kernel_rfl) (by kernel_rfl) (fun _ _ _ h => h) ⟨Or.inl ⟨by rfl, ?_⟩, fun _ => rfl⟩ ?_
                rotate_left 1
                · intro w9
                  go_simp <;> with_reducible rfl
                try simp only [Act.put, List.getElem_toArray, List.getElem_cons_zero, List.getElem_cons_succ, List.setIfInBounds_toArray, List.set_cons_zero, List.set_cons_succ]
                refine wpAnyIn_ready (rs := [1, 4]) (by kernel_rfl) (by simp) ?_
                refine AllReadyIn.cons rfl (fun K hK => ?_) (AllReadyIn.cons rfl (fun K hK => ?_) AllReadyIn.nil)
                · go_simp
                  refine hK _ _ ?_
                  clear hK K
                  try simp only [Act.put, List.getElem_toArray, List.getElem_cons_zero, List.getElem_cons_succ, List.setIfInBounds_toArray, List.set_cons_zero, List.set_cons_succ]
                  refine wpAnyIn_ready (rs := [4]) (by kernel_rfl) (by simp) ?_
                  refine AllReadyIn.cons rfl (fun K hK => ?_) AllReadyIn.nil
                  go_simp
                  refine hK _ _ ?_
                  clear hK K
                  try simp only [Act.put, List.getElem_toArray, List.getElem_cons_zero, List.getElem_cons_succ, List.setIfInBounds_toArray, List.set_cons_zero, List.set_cons_succ]
                  refine wpAnyIn_ready (rs := [5]) (by kernel_rfl) (by simp) ?_
                  refine AllReadyIn.cons rfl (fun K hK => ?_) AllReadyIn.nil
                  go_simp
                  refine ⟨trivial, ?_⟩
                  gi_at_call 37
                  refine (callsIn_wide.2 HIS.out).mono ?_
                  rintro e w6 ⟨rfl, hb6⟩
                  have hst : Below wr.heap.size wr w6 := HLO5.out.drew.trans (hb6.mono HLO5.out.size)
                  have hl6 := (HL7.out.kept rfl : HasCells w5.drew _ _ _).after hb6
                  have hgd : GoodL ys pre ((⟨⟨z0.text.toArray⟩, z1.list.map bytesT, ⟨z2.text.toArray⟩⟩, .slice pt mt ct), rl) wr w6 := ⟨by rw [HPL.out, HN.out]; exact hlt, ⟨_, _, _, rfl⟩, by rw [HPL.out, HYI.out]; exact HLBB.out.symm, fun _ => ⟨by rw [HPL.out, HYI.out]; exact HLI.out.symm, HS5.out.kept hb6.size (fun q _ hl => hb6.block q hl) (fun q hq _ => by have := HLO.out.size; omega)⟩⟩
                  obtain ⟨f1, t1, a1, b1, hy1, hR1⟩ := hY pre ((⟨⟨z0.text.toArray⟩, z1.list.map bytesT, ⟨z2.text.toArray⟩⟩, .slice pt mt ct), rl) wr w6 hJ0 hst hgd
                  simp only [encL] at hy1
                  have HST := Lib.hid hst
                  have HGD := Lib.hid hgd
                  have HR1 := Lib.hid hR1
                  have q3 := hl6.cell (j := 0) rfl
                  have q4 := hl6.cell (j := 1) rfl
                  have q5 := hl6.cell (j := 2) rfl
                  clear hst hgd hR1 hb6 hl6
                  refine hK _ _ ?_
                  clear hK K
                  try simp only [Act.put, List.getElem_toArray, List.getElem_cons_zero, List.getElem_cons_succ, List.setIfInBounds_toArray, List.set_cons_zero, List.set_cons_succ]
                  refine wpAnyIn_take (i := 6) (v := ?_) rfl rfl (by kernel_rfl) (by kernel_rfl) (by kernel_rfl) (fun _ _ _ h => h) ⟨Or.inl ⟨by rfl, ?_⟩, fun _ => rfl⟩ ?_
                  rotate_left 1
                  · intro w9
                    go_simp <;> with_reducible rfl
                  try simp only [Act.put, List.getElem_toArray, List.getElem_cons_zero, List.getElem_cons_succ, List.setIfInBounds_toArray, List.set_cons_zero, List.set_cons_succ]
                  refine wpAnyIn_ready (rs := [7]) (by kernel_rfl) (by simp) ?_
                  refine AllReadyIn.cons rfl (fun K hK => ?_) AllReadyIn.nil
                  go_simp
                  gi_wp2_with fail
                  refine HR1.out.mono ?_
                  rintro e W1 (⟨rfl, hJ1, hk1⟩ | ⟨rfl, hx1⟩)
                  · refine hK _ _ ?_
                    clear hK K
                    try simp only [Act.put, List.getElem_toArray, List.getElem_cons_zero, List.getElem_cons_succ, List.setIfInBounds_toArray, List.set_cons_zero, List.set_cons_succ]
                    refine wpAnyIn_take (i := 8) (v := ?_) rfl rfl (by kernel_rfl) (by kernel_rfl) (by kernel_rfl) (fun _ _ _ h => h) ⟨Or.inl ⟨by rfl, ?_⟩, fun _ => rfl⟩ ?_
                    rotate_left 1
                    · intro w9
                      go_simp <;> with_reducible rfl
                    try simp only [Act.put, List.getElem_toArray, List.getElem_cons_zero, List.getElem_cons_succ, List.setIfInBounds_toArray, List.set_cons_zero, List.set_cons_succ]
                    refine wpAnyIn_done (by kernel_rfl) ?_ _
                    gi_wp2
                    go_roundw
                    case rel => exact ⟨k + 1, pre ++ [((⟨⟨z0.text.toArray⟩, z1.list.map bytesT, ⟨z2.text.toArray⟩⟩, .slice pt mt ct), rl)], by rw [List.length_append, HPL.out]; rfl, by omega, by go_num, hJ1, Lib.hid (HREL.out.snoc (HGD.out)), Lib.hid (HK.out.trans ((KeepL.below HST.out HBN.out.1 HBN.out.2).trans hk1))⟩
                    case measure => simp [RowKit.intOf]; omega
                  · refine hK _ _ ?_
                    clear hK K
                    try simp only [Act.put, List.getElem_toArray, List.getElem_cons_zero, List.getElem_cons_succ, List.setIfInBounds_toArray, List.set_cons_zero, List.set_cons_succ]
                    refine wpAnyIn_take (i := 8) (v := ?_) rfl rfl (by kernel_rfl) (by kernel_rfl) (by kernel_rfl) (fun _ _ _ h => h) ⟨Or.inl ⟨by rfl, ?_⟩, fun _ => rfl⟩ ?_
                    rotate_left 1
                    · intro w9
                      go_simp <;> with_reducible rfl
                    try simp only [Act.put, List.getElem_toArray, List.getElem_cons_zero, List.getElem_cons_succ, List.setIfInBounds_toArray, List.set_cons_zero, List.set_cons_succ]
                    refine wpAnyIn_done (by kernel_rfl) ?_ _
                    gi_wp2
                    refine bodyPost_ret (results_none rfl _ _ _) rfl ?_
                    exact ⟨⟨_, rfl⟩, .inr ⟨_, HREL.out.snoc (HGD.out), hx1⟩⟩
                · go_simp
                  refine hK _ _ ?_
                  clear hK K
                  try simp only [Act.put, List.getElem_toArray, List.getElem_cons_zero, List.getElem_cons_succ, List.setIfInBounds_toArray, List.set_cons_zero, List.set_cons_succ]
                  refine wpAnyIn_ready (rs := [1, 5]) (by kernel_rfl) (by simp) ?_
                  refine AllReadyIn.cons rfl (fun K hK => ?_) (AllReadyIn.cons rfl (fun K hK => ?_) AllReadyIn.nil)
                  · go_simp
                    refine hK _ _ ?_
                    clear hK K
                    try simp only [Act.put, List.getElem_toArray, List.getElem_cons_zero, List.getElem_cons_succ, List.setIfInBounds_toArray, List.set_cons_zero, List.set_cons_succ]
                    refine wpAnyIn_ready (rs := [5]) (by kernel_rfl) (by simp) ?_
                    refine AllReadyIn.cons rfl (fun K hK => ?_) AllReadyIn.nil
                    go_simp
                    refine ⟨trivial, ?_⟩
                    gi_at_call 37
                    refine (callsIn_wide.2 HIS.out).mono ?_
                    rintro e w6 ⟨rfl, hb6⟩
                    have hst : Below wr.heap.size wr w6 := HLO5.out.drew.trans (hb6.mono HLO5.out.size)
                    have hl6 := (HL7.out.kept rfl : HasCells w5.drew _ _ _).after hb6
                    have hgd : GoodL ys pre ((⟨⟨z0.text.toArray⟩, z1.list.map bytesT, ⟨z2.text.toArray⟩⟩, .slice pt mt ct), rl) wr w6 := ⟨by rw [HPL.out, HN.out]; exact hlt, ⟨_, _, _, rfl⟩, by rw [HPL.out, HYI.out]; exact HLBB.out.symm, fun _ => ⟨by rw [HPL.out, HYI.out]; exact HLI.out.symm, HS5.out.kept hb6.size (fun q _ hl => hb6.block q hl) (fun q hq _ => by have := HLO.out.size; omega)⟩⟩
                    obtain ⟨f1, t1, a1, b1, hy1, hR1⟩ := hY pre ((⟨⟨z0.text.toArray⟩, z1.list.map bytesT, ⟨z2.text.toArray⟩⟩, .slice pt mt ct), rl) wr w6 hJ0 hst hgd
                    simp only [encL] at hy1
                    have HST := Lib.hid hst
                    have HGD := Lib.hid hgd
                    have HR1 := Lib.hid hR1
                    have q3 := hl6.cell (j := 0) rfl
                    have q4 := hl6.cell (j := 1) rfl
                    have q5 := hl6.cell (j := 2) rfl
                    clear hst hgd hR1 hb6 hl6
                    refine hK _ _ ?_
                    clear hK K
                    try simp only [Act.put, List.getElem_toArray, List.getElem_cons_zero, List.getElem_cons_succ, List.setIfInBounds_toArray, List.set_cons_zero, List.set_cons_succ]
                    refine wpAnyIn_take (i := 6) (v := ?_) rfl rfl (by kernel_rfl) (by kernel_rfl) (by kernel_rfl) (fun _ _ _ h => h) ⟨Or.inl ⟨by rfl, ?_⟩, fun _ => rfl⟩ ?_
                    rotate_left 1
                    · intro w9
                      go_simp <;> with_reducible rfl
                    try simp only [Act.put, List.getElem_toArray, List.getElem_cons_zero, List.getElem_cons_succ, List.setIfInBounds_toArray, List.set_cons_zero, List.set_cons_succ]
                    refine wpAnyIn_ready (rs := [7]) (by kernel_rfl) (by simp) ?_
                    refine AllReadyIn.cons rfl (fun K hK => ?_) AllReadyIn.nil
                    go_simp
                    gi_wp2_with fail
                    refine HR1.out.mono ?_
                    rintro e W1 (⟨rfl, hJ1, hk1⟩ | ⟨rfl, hx1⟩)
                    · refine hK _ _ ?_
                      clear hK K
                      try simp only [Act.put, List.getElem_toArray, List.getElem_cons_zero, List.getElem_cons_succ, List.setIfInBounds_toArray, List.set_cons_zero, List.set_cons_succ]
                      refine wpAnyIn_take (i := 8) (v := ?_) rfl rfl (by kernel_rfl) (by kernel_rfl) (by kernel_rfl) (fun _ _ _ h => h) ⟨Or.inl ⟨by rfl, ?_⟩, fun _ => rfl⟩ ?_
                      rotate_left 1
                      · intro w9
                        go_simp <;> with_reducible rfl
                      try simp only [Act.put, List.getElem_toArray, List.getElem_cons_zero, List.getElem_cons_succ, List.setIfInBounds_toArray, List.set_cons_zero, List.set_cons_succ]
                      refine wpAnyIn_done (by kernel_rfl) ?_ _
                      gi_wp2
                      go_roundw
                      case rel => exact ⟨k + 1, pre ++ [((⟨⟨z0.text.toArray⟩, z1.list.map bytesT, ⟨z2.text.toArray⟩⟩, .slice pt mt ct), rl)], by rw [List.length_append, HPL.out]; rfl, by omega, by go_num, hJ1, Lib.hid (HREL.out.snoc (HGD.out)), Lib.hid (HK.out.trans ((KeepL.below HST.out HBN.out.1 HBN.out.2).trans hk1))⟩
                      case measure => simp [RowKit.intOf]; omega
                    · refine hK _ _ ?_
                      clear hK K
                      try simp only [Act.put, List.getElem_toArray, List.getElem_cons_zero, List.getElem_cons_succ, List.setIfInBounds_toArray, List.set_cons_zero, List.set_cons_succ]
                      refine wpAnyIn_take (i := 8) (v := ?_) rfl rfl (by kernel_rfl) (by kernel_rfl) (by kernel_rfl) (fun _ _ _ h => h) ⟨Or.inl ⟨by rfl, ?_⟩, fun _ => rfl⟩ ?_
                      rotate_left 1
                      · intro w9
                        go_simp <;> with_reducible rfl
                      try simp only [Act.put, List.getElem_toArray, List.getElem_cons_zero, List.getElem_cons_succ, List.setIfInBounds_toArray, List.set_cons_zero, List.set_cons_succ]
                      refine wpAnyIn_done (by kernel_rfl) ?_ _
                      gi_wp2
                      refine bodyPost_ret (results_none rfl _ _ _) rfl ?_
                      exact ⟨⟨_, rfl⟩, .inr ⟨_, HREL.out.snoc (HGD.out), hx1⟩⟩
                  · go_simp
                    refine ⟨trivial, ?_⟩
                    gi_at_call 37
                    refine (callsIn_wide.2 HIS.out).mono ?_
                    rintro e w6 ⟨rfl, hb6⟩
                    have hst : Below wr.heap.size wr w6 := HLO5.out.drew.trans (hb6.mono HLO5.out.size)
                    have hl6 := (HL7.out.kept rfl : HasCells w5.drew _ _ _).after hb6
                    have hgd : GoodL ys pre ((⟨⟨z0.text.toArray⟩, z1.list.map bytesT, ⟨z2.text.toArray⟩⟩, .slice pt mt ct), rl) wr w6 := ⟨by rw [HPL.out, HN.out]; exact hlt, ⟨_, _, _, rfl⟩, by rw [HPL.out, HYI.out]; exact HLBB.out.symm, fun _ => ⟨by rw [HPL.out, HYI.out]; exact HLI.out.symm, HS5.out.kept hb6.size (fun q _ hl => hb6.block q hl) (fun q hq _ => by have := HLO.out.size; omega)⟩⟩
                    obtain ⟨f1, t1, a1, b1, hy1, hR1⟩ := hY pre ((⟨⟨z0.text.toArray⟩, z1.list.map bytesT, ⟨z2.text.toArray⟩⟩, .slice pt mt ct), rl) wr w6 hJ0 hst hgd
                    simp only [encL] at hy1
                    have HST := Lib.hid hst
                    have HGD := Lib.hid hgd
                    have HR1 := Lib.hid hR1
                    have q3 := hl6.cell (j := 0) rfl
                    have q4 := hl6.cell (j := 1) rfl
                    have q5 := hl6.cell (j := 2) rfl
                    clear hst hgd hR1 hb6 hl6
                    refine hK _ _ ?_
                    clear hK K
                    try simp only [Act.put, List.getElem_toArray, List.getElem_cons_zero, List.getElem_cons_succ, List.setIfInBounds_toArray, List.set_cons_zero, List.set_cons_succ]
                    refine wpAnyIn_take (i := 6) (v := ?_) rfl rfl (by kernel_rfl) (by kernel_rfl) (by kernel_rfl) (fun _ _ _ h => h) ⟨Or.inl ⟨by rfl, ?_⟩, fun _ => rfl⟩ ?_
                    rotate_left 1
                    · intro w9
                      go_simp <;> with_reducible rfl
                    try simp only [Act.put, List.getElem_toArray, List.getElem_cons_zero, List.getElem_cons_succ, List.setIfInBounds_toArray, List.set_cons_zero, List.set_cons_succ]
                    refine wpAnyIn_ready (rs := [1]) (by kernel_rfl) (by simp) ?_
                    refine AllReadyIn.cons rfl (fun K hK => ?_) AllReadyIn.nil
                    go_simp
                    refine hK _ _ ?_
                    clear hK K
                    try simp only [Act.put, List.getElem_toArray, List.getElem_cons_zero, List.getElem_cons_succ, List.setIfInBounds_toArray, List.set_cons_zero, List.set_cons_succ]
                    refine wpAnyIn_ready (rs := [7]) (by kernel_rfl) (by simp) ?_
                    refine AllReadyIn.cons rfl (fun K hK => ?_) AllReadyIn.nil
                    go_simp
                    gi_wp2_with fail
                    refine HR1.out.mono ?_
                    rintro e W1 (⟨rfl, hJ1, hk1⟩ | ⟨rfl, hx1⟩)
                    · refine hK _ _ ?_
                      clear hK K
                      try simp only [Act.put, List.getElem_toArray, List.getElem_cons_zero, List.getElem_cons_succ, List.setIfInBounds_toArray, List.set_cons_zero, List.set_cons_succ]
                      refine wpAnyIn_take (i := 8) (v := ?_) rfl rfl (by kernel_rfl) (by kernel_rfl) (by kernel_rfl) (fun _ _ _ h => h) ⟨Or.inl ⟨by rfl, ?_⟩, fun _ => rfl⟩ ?_
                      rotate_left 1
                      · intro w9
                        go_simp <;> with_reducible rfl
                      try simp only [Act.put, List.getElem_toArray, List.getElem_cons_zero, List.getElem_cons_succ, List.setIfInBounds_toArray, List.set_cons_zero, List.set_cons_succ]
                      refine wpAnyIn_done (by kernel_rfl) ?_ _
                      gi_wp2
                      go_roundw
                      case rel => exact ⟨k + 1, pre ++ [((⟨⟨z0.text.toArray⟩, z1.list.map bytesT, ⟨z2.text.toArray⟩⟩, .slice pt mt ct), rl)], by rw [List.length_append, HPL.out]; rfl, by omega, by go_num, hJ1, Lib.hid (HREL.out.snoc (HGD.out)), Lib.hid (HK.out.trans ((KeepL.below HST.out HBN.out.1 HBN.out.2).trans hk1))⟩
                      case measure => simp [RowKit.intOf]; omega
                    · refine hK _ _ ?_
                      clear hK K
                      try simp only [Act.put, List.getElem_toArray, List.getElem_cons_zero, List.getElem_cons_succ, List.setIfInBounds_toArray, List.set_cons_zero, List.set_cons_succ]
                      refine wpAnyIn_take (i := 8) (v := ?_) rfl rfl (by kernel_rfl) (by kernel_rfl) (by kernel_rfl) (fun _ _ _ h => h) ⟨Or.inl ⟨by rfl, ?_⟩, fun _ => rfl⟩ ?_
                      rotate_left 1
                      · intro w9
                        go_simp <;> with_reducible rfl
                      try simp only [Act.put, List.getElem_toArray, List.getElem_cons_zero, List.getElem_cons_succ, List.setIfInBounds_toArray, List.set_cons_zero, List.set_cons_succ]
                      refine wpAnyIn_done (by kernel_rfl) ?_ _
                      gi_wp2
                      refine bodyPost_ret (results_none rfl _ _ _) rfl ?_
                      exact ⟨⟨_, rfl⟩, .inr ⟨_, HREL.out.snoc (HGD.out), hx1⟩⟩
        · have g5 : ¬ ((m : Int) = 3) := by omega
          have H3M := Lib.hid h3m
          clear h3m
          gi_wp2
          obtain ⟨w2, hw2⟩ : ∃ W, (wr.alloc (.cells #[.bool true, .string ⟨y.text.toArray⟩, .slice q1 m n1] 51)).alloc (.cells #[.string ⟨#[]⟩, .slice none 0 0, .string ⟨#[]⟩] 64) = W := ⟨_, rfl⟩
          have hlo2 : Below wr.heap.size wr w2 := by rw [← hw2]; exact laid2 _ _ _
          have h3 := cells_three (w := wr.alloc (.cells #[.bool true, .string ⟨y.text.toArray⟩, .slice q1 m n1] 51)) (v0 := .string ⟨#[]⟩) (v1 := .slice none 0 0) (v2 := .string ⟨#[]⟩) (t := 64) (Below.refl _ _)
          rw [hw2, World.size_alloc] at h3
          rw [hw2]
          have hlb : logB y = false := by unfold logB shapeB; rw [HYL.out, HM.out, decide_eq_false H3M.out]; simp
          clear hw2
          have hst : Below wr.heap.size wr w2.drew := (hlo2).drew
          have hgd : GoodL ys pre ((⟨⟨#[]⟩, [], ⟨#[]⟩⟩, .slice none 0 0), false) wr w2.drew := ⟨by rw [HPL.out, HN.out]; exact hlt, ⟨_, _, _, rfl⟩, by rw [HPL.out, HYI.out]; exact (hlb).symm, fun h => by cases h⟩
          obtain ⟨f1, t1, a1, b1, hy1, hR1⟩ := hY pre ((⟨⟨#[]⟩, [], ⟨#[]⟩⟩, .slice none 0 0), false) wr w2.drew hJ0 hst hgd
          simp only [encL] at hy1
          have HST := Lib.hid hst
          have HGD := Lib.hid hgd
          have HR1 := Lib.hid hR1
          have q0 : w2.drew.cell? ⟨wr.heap.size + 1, 0, none⟩ = some (.string ⟨#[]⟩) := h3.1
          have q1 : w2.drew.cell? ⟨wr.heap.size + 1, 1, none⟩ = some (.slice none 0 0) := h3.2.1
          have q2 : w2.drew.cell? ⟨wr.heap.size + 1, 2, none⟩ = some (.string ⟨#[]⟩) := h3.2.2
          clear hst hgd hR1
          refine wpIn_region_any (by kernel_rfl) ?_
          try (change wpAnyIn _ _ _ _ _ _ _ _ _ (World.drew _))
          refine wpAnyIn_take (i := 0) (v := ?_) rfl rfl (by kernel_rfl) (by kernel_rfl) (by kernel_rfl) (fun _ _ _ h => h) ⟨Or.inl ⟨by rfl, ?_⟩, fun _ => rfl⟩ ?_
          rotate_left 1
          · intro w9
            go_simp <;> with_reducible rfl
          try simp only [Act.put, List.getElem_toArray, List.getElem_cons_zero, List.setIfInBounds_toArray, List.set_cons_zero, List.set_cons_succ]
          refine wpAnyIn_take (i := 2) (v := ?_) rfl rfl (by kernel_rfl) (by kernel_rfl) (by kernel_rfl) (fun _ _ _ h => h) ⟨Or.inl ⟨by rfl, ?_⟩, fun _ => rfl⟩ ?_
          rotate_left 1
          · intro w9
            go_simp <;> with_reducible rfl
          try simp only [Act.put, List.getElem_toArray, List.getElem_cons_zero, List.getElem_cons_succ, List.setIfInBounds_toArray, List.set_cons_zero, List.set_cons_succ]
          refine wpAnyIn_take (i := 3) (v := ?_) rfl rfl (by kernel_rfl) (by kernel_rfl) (by kernel_rfl) (fun _ _ _ h => h) ⟨Or.inl ⟨by rfl, ?_⟩, fun _ => rfl⟩ ?_
          rotate_left 1
          · intro w9
            go_simp <;> with_reducible rfl
          try simp only [Act.put, List.getElem_toArray, List.getElem_cons_zero, List.getElem_cons_succ, List.setIfInBounds_toArray, List.set_cons_zero, List.set_cons_succ]
          refine wpAnyIn_take (i := 4) (v := undef) rfl rfl (by kernel_rfl) (by kernel_rfl) (by kernel_rfl) (fun _ _ _ h => h) ⟨Or.inr ⟨by rfl, rfl⟩, fun _ => rfl⟩ ?_
          try simp only [Act.put, List.getElem_toArray, List.getElem_cons_zero, List.getElem_cons_succ, List.setIfInBounds_toArray, List.set_cons_zero, List.set_cons_succ]
          refine wpAnyIn_ready (rs := [1, 5]) (by kernel_rfl) (by simp) ?_
          refine AllReadyIn.cons rfl (fun K hK => ?_) (AllReadyIn.cons rfl (fun K hK => ?_) AllReadyIn.nil)
          · go_simp
            refine hK _ _ ?_
            clear hK K
            try simp only [Act.put, List.getElem_toArray, List.getElem_cons_zero, List.getElem_cons_succ, List.setIfInBounds_toArray, List.set_cons_zero, List.set_cons_succ]
            refine wpAnyIn_ready (rs := [5]) (by kernel_rfl) (by simp) ?_
            refine AllReadyIn.cons rfl (fun K hK => ?_) AllReadyIn.nil
            go_simp
            refine ⟨trivial, ?_⟩
            refine hK _ _ ?_
            clear hK K
            try simp only [Act.put, List.getElem_toArray, List.getElem_cons_zero, List.getElem_cons_succ, List.setIfInBounds_toArray, List.set_cons_zero, List.set_cons_succ]
            refine wpAnyIn_take (i := 6) (v := ?_) rfl rfl (by kernel_rfl) (by kernel_rfl) (by kernel_rfl) (fun _ _ _ h => h) ⟨Or.inl ⟨by rfl, ?_⟩, fun _ => rfl⟩ ?_
            rotate_left 1
            · intro w9
              go_simp <;> with_reducible rfl
            try simp only [Act.put, List.getElem_toArray, List.getElem_cons_zero, List.getElem_cons_succ, List.setIfInBounds_toArray, List.set_cons_zero, List.set_cons_succ]
            refine wpAnyIn_ready (rs := [7]) (by kernel_rfl) (by simp) ?_
            refine AllReadyIn.cons rfl (fun K hK => ?_) AllReadyIn.nil
            go_simp
            gi_wp2_with fail
            refine HR1.out.mono ?_
            rintro e W1 (⟨rfl, hJ1, hk1⟩ | ⟨rfl, hx1⟩)
            · refine hK _ _ ?_
              clear hK K
              try simp only [Act.put, List.getElem_toArray, List.getElem_cons_zero, List.getElem_cons_succ, List.setIfInBounds_toArray, List.set_cons_zero, List.set_cons_succ]
              refine wpAnyIn_take (i := 8) (v := ?_) rfl rfl (by kernel_rfl) (by kernel_rfl) (by kernel_rfl) (fun _ _ _ h => h) ⟨Or.inl ⟨by rfl, ?_⟩, fun _ => rfl⟩ ?_
              rotate_left 1
              · intro w9
                go_simp <;> with_reducible rfl
              try simp only [Act.put, List.getElem_toArray, List.getElem_cons_zero, List.getElem_cons_succ, List.setIfInBounds_toArray, List.set_cons_zero, List.set_cons_succ]
              refine wpAnyIn_done (by kernel_rfl) ?_ _
              gi_wp2
              go_roundw
              case rel => exact ⟨k + 1, pre ++ [((⟨⟨#[]⟩, [], ⟨#[]⟩⟩, .slice none 0 0), false)], by rw [List.length_append, HPL.out]; rfl, by omega, by go_num, hJ1, Lib.hid (HREL.out.snoc (HGD.out)), Lib.hid (HK.out.trans ((KeepL.below HST.out HBN.out.1 HBN.out.2).trans hk1))⟩
              case measure => simp [RowKit.intOf]; omega
            · refine hK _ _ ?_
              clear hK K
              try simp only [Act.put, List.getElem_toArray, List.getElem_cons_zero, List.getElem_cons_succ, List.setIfInBounds_toArray, List.set_cons_zero, List.set_cons_succ]
              refine wpAnyIn_take (i := 8) (v := ?_) rfl rfl (by kernel_rfl) (by kernel_rfl) (by kernel_rfl) (fun _ _ _ h => h) ⟨Or.inl ⟨by rfl, ?_⟩, fun _ => rfl⟩ ?_
              rotate_left 1
              · intro w9
                go_simp <;> with_reducible rfl
              try simp only [Act.put, List.getElem_toArray, List.getElem_cons_zero, List.getElem_cons_succ, List.setIfInBounds_toArray, List.set_cons_zero, List.set_cons_succ]
              refine wpAnyIn_done (by kernel_rfl) ?_ _
              gi_wp2
              refine bodyPost_ret (results_none rfl _ _ _) rfl ?_
              exact ⟨⟨_, rfl⟩, .inr ⟨_, HREL.out.snoc (HGD.out), hx1⟩⟩
          · go_simp
            refine ⟨trivial, ?_⟩
            refine hK _ _ ?_
            clear hK K
            try simp only [Act.put, List.getElem_toArray, List.getElem_cons_zero, List.getElem_cons_succ, List.setIfInBounds_toArray, List.set_cons_zero, List.set_cons_succ]
            refine wpAnyIn_take (i := 6) (v := ?_) rfl rfl (by kernel_rfl) (by kernel_rfl) (by kernel_rfl) (fun _ _ _ h => h) ⟨Or.inl ⟨by rfl, ?_⟩, fun _ => rfl⟩ ?_
            rotate_left 1
            · intro w9
              go_simp <;> with_reducible rfl
            try simp only [Act.put, List.getElem_toArray, List.getElem_cons_zero, List.getElem_cons_succ, List.setIfInBounds_toArray, List.set_cons_zero, List.set_cons_succ]
            refine wpAnyIn_ready (rs := [1]) (by kernel_rfl) (by simp) ?_
            refine AllReadyIn.cons rfl (fun K hK => ?_) AllReadyIn.nil
            go_simp
            refine hK _ _ ?_
            clear hK K
            try simp only [Act.put, List.getElem_toArray, List.getElem_cons_zero, List.getElem_cons_succ, List.setIfInBounds_toArray, List.set_cons_zero, List.set_cons_succ]
            refine wpAnyIn_ready (rs := [7]) (by kernel_rfl) (by simp) ?_
            refine AllReadyIn.cons rfl (fun K hK => ?_) AllReadyIn.nil
            go_simp
            gi_wp2_with fail
            refine HR1.out.mono ?_
            rintro e W1 (⟨rfl, hJ1, hk1⟩ | ⟨rfl, hx1⟩)
            · refine hK _ _ ?_
              clear hK K
              try simp only [Act.put, List.getElem_toArray, List.getElem_cons_zero, List.getElem_cons_succ, List.setIfInBounds_toArray, List.set_cons_zero, List.set_cons_succ]
              refine wpAnyIn_take (i := 8) (v := ?_) rfl rfl (by kernel_rfl) (by kernel_rfl) (by kernel_rfl) (fun _ _ _ h => h) ⟨Or.inl ⟨by rfl, ?_⟩, fun _ => rfl⟩ ?_
              rotate_left 1
              · intro w9
                go_simp <;> with_reducible rfl
              try simp only [Act.put, List.getElem_toArray, List.getElem_cons_zero, List.getElem_cons_succ, List.setIfInBounds_toArray, List.set_cons_zero, List.set_cons_succ]
              refine wpAnyIn_done (by kernel_rfl) ?_ _
              gi_wp2
              go_roundw
              case rel => exact ⟨k + 1, pre ++ [((⟨⟨#[]⟩, [], ⟨#[]⟩⟩, .slice none 0 0), false)], by rw [List.length_append, HPL.out]; rfl, by omega, by go_num, hJ1, Lib.hid (HREL.out.snoc (HGD.out)), Lib.hid (HK.out.trans ((KeepL.below HST.out HBN.out.1 HBN.out.2).trans hk1))⟩
              case measure => simp [RowKit.intOf]; omega
            · refine hK _ _ ?_
              clear hK K
              try simp only [Act.put, List.getElem_toArray, List.getElem_cons_zero, List.getElem_cons_succ, List.setIfInBounds_toArray, List.set_cons_zero, List.set_cons_succ]
              refine wpAnyIn_take (i := 8) (v := ?_) rfl rfl (by kernel_rfl) (by kernel_rfl) (by kernel_rfl) (fun _ _ _ h => h) ⟨Or.inl ⟨by rfl, ?_⟩, fun _ => rfl⟩ ?_
              rotate_left 1
              · intro w9
                go_simp <;> with_reducible rfl
              try simp only [Act.put, List.getElem_toArray, List.getElem_cons_zero, List.getElem_cons_succ, List.setIfInBounds_toArray, List.set_cons_zero, List.set_cons_succ]
              refine wpAnyIn_done (by kernel_rfl) ?_ _
              gi_wp2
              refine bodyPost_ret (results_none rfl _ _ _) rfl ?_
              exact ⟨⟨_, rfl⟩, .inr ⟨_, HREL.out.snoc (HGD.out), hx1⟩⟩
    · have hkN : k = N := by omega
      have g2 : ¬ ((k : Int) < N) := by omega
      gi_wp2
      go_end0
      exact ⟨⟨_, rfl⟩, .inl ⟨pre, ⟨HREL.out, by rw [hpl, HN.out]; exact hkN⟩, hJ0⟩⟩
end Go.Proofs.YtmjblnhnadffmaaDoor

/- acct.ReceiptFrom behind its label. -/
namespace Go.Proofs.YtmjblnhnadffmaaDoor
open Go.RowKit Go.Shelf Go.Lib
attribute [local go_sem] Oper.semAt_some

/-- is there a receipt of bytes; which one; else: an error -/
def rcptOk (s : List UInt8) : Bool := rcptB (decode s).1 (decode s).2
def rcptOf (s : List UInt8) : Bool × Nat × List LogD := bif rcptOk s then (rcptGood (decode s).1, rcptGas (decode s).1, rcptLogs (decode s).1) else (false, 0, [])
def rcptErr (s : List UInt8) : Int := bif rcptOk s then 0 else 160
theorem rcpt_bad {s : List UInt8} {x : Item} {n : Int} (hx : decode s = (x, n)) (h : rcptB x n = false) : rcptOf s = (false, 0, []) ∧ rcptErr s = 160 := by
  have h' : rcptOk s = false := by unfold rcptOk; rw [hx]; exact h
  unfold rcptOf rcptErr
  rw [h']
  exact ⟨rfl, rfl⟩
theorem rcpt_good {s : List UInt8} {x : Item} {n : Int} (hx : decode s = (x, n)) (h : rcptB x n = true) : rcptOf s = (rcptGood x, rcptGas x, rcptLogs x) ∧ rcptErr s = 0 := by
  have h' : rcptOk s = true := by unfold rcptOk; rw [hx]; exact h
  unfold rcptOf rcptErr
  rw [h', hx]
  exact ⟨rfl, rfl⟩
def rcptZ : List Value := [.bool false, .int .u64 0, .slice none 0 0]
theorem infoRcpt : (Tryd.prog.info? 38).map (·.size) = some 3 := by kernel_rfl
/-- what the call gives -/
def RcptIs (s : List UInt8) (e : Ending) (w w' : World) : Prop :=
  ∃ (good : Bool) (gas : Nat) (ls : List LogD) (v : Value), e = .returned (.tuple #[.agg #[.bool good, .int .u64 gas, v], .int .i64 (rcptErr s)]) ∧ rcptOf s = (good, gas, ls) ∧ Logs w' v ls ∧ (∃ p n c, v = .slice p n c) ∧ Below w.heap.size w w'
theorem cells_of_cellK {w : World} {q o : Nat} {u : Value} (h : w.cell? ⟨q, o, none⟩ = some u) : ∃ ob, w.heap[q]? = some ob ∧ ob.isCells = true := by
  obtain ⟨ob, ho, hc⟩ := cells_of_cell h
  exact ⟨ob, ho, hc⟩
theorem HasCells.grown {W W' : World} {q : Nat} {cs : List Value} {t : TypeId} {row : Option Nat} (h : HasCells W q cs t) (hg : W.grownBy W' row) (hr : ∀ r, row = some r → ∃ o : Obj, W.heap[r]? = some o ∧ o.isCells = false) : HasCells W' q cs t :=
  h.kept (hg.block q h.lt (fun e => by
    obtain ⟨o, ho, hc⟩ := hr q e.symm
    rw [show W.heap[q]? = _ from h] at ho
    cases ho; cases hc))
theorem StrsIn.grown {w w' : World} {A : Nat → Prop} {v : Value} {xs : List ByteArray} {row : Option Nat} (h : StrsIn w A v xs) (hg : w.grownBy w' row) (hr : ∀ r, row = some r → ∃ o : Obj, w.heap[r]? = some o ∧ o.isCells = false) : StrsIn w' A v xs := by
  obtain ⟨p, c, hv, hc, h⟩ := h
  refine ⟨p, c, hv, hc, ?_⟩
  rcases h with h | ⟨bk, o, h1, h2, h3, h4⟩
  · exact .inl h
  · cases xs with
    | nil => exact .inl rfl
    | cons x r =>
      have hne : some bk ≠ row := fun e => by
        obtain ⟨ob, ho, hcl⟩ := hr bk e.symm
        obtain ⟨ob', ho', hcl'⟩ := cells_of_cellK (h4 0 x rfl)
        rw [ho] at ho'; cases ho'; rw [hcl] at hcl'; cases hcl'
      exact .inr ⟨bk, o, h1, h2, Nat.lt_of_lt_of_le h3 hg.size, fun j y hy => (World.cell?_of_block (a := ⟨bk, o + j, none⟩) (hg.block bk h3 hne)).trans (h4 j y hy)⟩
theorem RowL.grown {B : Nat} {W W' : World} {v : Value} {l : List (LogD × Value)} {row : Option Nat} (h : RowL B W v l) (hg : W.grownBy W' row) (hr : ∀ r, row = some r → ∃ o : Obj, W.heap[r]? = some o ∧ o.isCells = false) : RowL B W' v l := by
  refine ⟨h.1.of_block (fun k e => hg.block k (h.1.lt k e).2 (fun e2 => ?_)), fun q hq => (h.2 q hq).grown hg hr⟩
  obtain ⟨ob, ho, hcl⟩ := hr k e2.symm
  obtain ⟨_, ⟨rfl, _⟩ | ⟨g, cap, cur, rfl, _, hgg, _⟩⟩ := h.1
  · cases e
  · cases e; rw [hgg] at ho; cases ho; cases hcl
theorem StrsIn.sub {w : World} {A A' : Nat → Prop} {v : Value} {xs : List ByteArray} (h : StrsIn w A v xs) (hA : ∀ g, A g → g < w.heap.size → A' g) : StrsIn w A' v xs := h.kept (Nat.le_refl _) (fun _ _ _ => rfl) hA
theorem HasCells.step {A B : World} {q : Nat} {cs : List Value} {t : TypeId} (h : HasCells A q cs t) (hs : StepL A B) : HasCells B q cs t := h.after hs
/-- the variables between two rounds -/
def LgV (w : World) (z : Nat) (bd g : Bool) (gas : Nat) (v : Value) (pre : List ElL) (W : World) : Prop :=
  (∀ q ∈ pre, q.2 = true) ∧ HasCells W (z + 1) [.bool bd] 4 ∧ HasCells W (z + 2) [.bool g, .int .u64 gas, v] 38 ∧ RowL (z + 4) W v (pre.map Prod.fst) ∧ HasCells W w.heap.size rcptZ 38 ∧ Below w.heap.size w W ∧ z + 4 ≤ W.heap.size
theorem LgV.step {w A B : World} {z gas : Nat} {bd g : Bool} {v : Value} {pre : List ElL} (h : LgV w z bd g gas v pre A) (hs : StepL A B) : LgV w z bd g gas v pre B := by
  obtain ⟨h1, h2, h3, h4, h5, h6, h7⟩ := h
  exact ⟨h1, h2.step hs, h3.step hs, h4.after hs, h5.step hs, h6.trans (Below.mono hs h6.size), Nat.le_trans h7 (Below.size hs)⟩
theorem LgV.grown {w A B : World} {z gas : Nat} {bd g : Bool} {v : Value} {pre : List ElL} {row : Option Nat} (h : LgV w z bd g gas v pre A) (hz : w.heap.size < z) (hg : A.grownBy B row) (hr : ∀ r, row = some r → z + 4 ≤ r ∧ ∃ o : Obj, A.heap[r]? = some o ∧ o.isCells = false) : LgV w z bd g gas v pre B := by
  obtain ⟨h1, h2, h3, h4, h5, h6, h7⟩ := h
  have hr2 := fun r e => (hr r e).2
  exact ⟨h1, h2.grown hg hr2, h3.grown hg hr2, h4.grown hg hr2, h5.grown hg hr2, h6.grown hg h6.size (fun r e => by have := (hr r e).1; omega), Nat.le_trans h7 hg.size⟩
/-- where a round has met one that is none -/
def LgX (w : World) (z : Nat) (c : Code) (pre : List ElL) (W : World) : Prop :=
  c = .exit 0 ∧ (∃ q ∈ pre, q.2 = false) ∧ HasCells W (z + 1) [.bool true] 4 ∧ HasCells W w.heap.size rcptZ 38 ∧ Below w.heap.size w W
theorem LgX.step {w A B : World} {z : Nat} {c : Code} {pre : List ElL} (h : LgX w z c pre A) (hs : StepL A B) : LgX w z c pre B := by
  obtain ⟨h1, h2, h3, h4, h5⟩ := h
  exact ⟨h1, h2, h3.step hs, h4.step hs, h5.trans (Below.mono hs h5.size)⟩
theorem LgX.grown {w A B : World} {z : Nat} {c : Code} {pre : List ElL} {row : Option Nat} (h : LgX w z c pre A) (hz : w.heap.size < z) (hg : A.grownBy B row) (hr : ∀ r, row = some r → z + 4 ≤ r ∧ ∃ o : Obj, A.heap[r]? = some o ∧ o.isCells = false) : LgX w z c pre B := by
  obtain ⟨h1, h2, h3, h4, h5⟩ := h
  have hr2 := fun r e => (hr r e).2
  exact ⟨h1, h2, h3.grown hg hr2, h4.grown hg hr2, h5.grown hg h5.size (fun r e => by have := (hr r e).1; omega)⟩
theorem wpListIn_appendL {F : Fence} {n : Nat} {ops : Array Oper} {rest : List Oper} {o : Oper} {a : Act} {w : World} {Q : Exit → Act → World → Prop} (hgd : o.guard = none) (s x : Operand)
    (ho : o.op = .call { callee := .builtin .append, args := #[s, x], argTypes := #[36, 36] })
    (base : Nat) (v : Value) (l : List (LogD × Value)) (hs : a.eval s = v) (hown : OwnL base w v l) (ad : Addr) (c : Nat) (q : LogD × Value) (hq : ∃ p n c, q.2 = .slice p n c) (hx : a.eval x = .slice (some ad) 1 c)
    (hnews : ∀ j u, (logCells [q])[j]? = some u → w.cell? (ad.add j) = some u) (h63 : l.length ≤ 1099511627776) (hbase : base ≤ w.heap.size)
    (hK : ∀ v' w', OwnL base w' v' (l ++ [q]) → w.grownBy w' v.ownBlock → (v'.ownBlock = v.ownBlock ∨ v'.ownBlock = some w.heap.size) → wpListIn F n Tryd.prog ops Q rest (a.put o.dst v') w') : wpListIn F n Tryd.prog ops Q (o :: rest) a w := by
  obtain ⟨v', w', hrun, r1, r2, r3⟩ := run_appendL hown ad c q hq hnews h63 hbase o.type
  refine wpListIn_plain hgd fun K hK' => ?_
  unfold Oper.wpIn
  refine ⟨?_, ?_⟩
  · simp [Oper.about, ho, resolve, Target.leads, Sem.run_pure]
  · rw [Oper.semAt_plain F _ _ (by rw [ho]; intro c hc'; cases hc')]
    simp [execOp, ho, resolve, invoke, builtin, hs, hx, hrun, Result.andThen]
    exact hK' _ _ (hK v' w' r1 r2 r3)
theorem RelL.all {ys : List Item} {xs : List ElL} (h : RelL ys xs) (hl : xs.length = ys.length) (ht : ∀ q ∈ xs, q.2 = true) : ys.all logB = true ∧ (xs.map Prod.fst).map Prod.fst = ys.map logI := by
  have hy : ∀ j, (hj : j < ys.length) → yI ys j = ys[j] := fun j hj => by unfold yI; rw [List.getD_eq_getElem?_getD, List.getElem?_eq_getElem hj]; rfl
  refine ⟨List.all_eq_true.2 (fun y hm => ?_), ?_⟩
  · obtain ⟨j, hj, rfl⟩ := List.mem_iff_getElem.1 hm
    have hx : xs[j]? = some xs[j] := List.getElem?_eq_getElem (by omega)
    have h1 := (h.2 j _ hx).1
    rw [ht _ (List.getElem_mem _), hy j hj] at h1
    exact h1.symm
  · rw [List.map_map]
    refine List.ext_getElem (by simp [hl]) (fun j h1 h2 => ?_)
    rw [List.getElem_map, List.getElem_map]
    have hjx : j < xs.length := by simpa using h1
    have hx : xs[j]? = some xs[j] := List.getElem?_eq_getElem hjx
    have h3 := (h.2 j _ hx).2 (ht _ (List.getElem_mem _))
    rw [hy j (by omega)] at h3
    exact h3
theorem RelL.none {ys : List Item} {xs : List ElL} (h : RelL ys xs) {q : ElL} (hq : q ∈ xs) (hf : q.2 = false) : ys.all logB = false := by
  obtain ⟨j, hj, rfl⟩ := List.mem_iff_getElem.1 hq
  have hx : xs[j]? = some xs[j] := List.getElem?_eq_getElem hj
  have h1 := (h.2 j _ hx).1
  have hjy : j < ys.length := by have := h.1; omega
  rw [hf] at h1
  refine List.all_eq_false.2 ⟨ys[j], List.getElem_mem _, ?_⟩
  unfold yI at h1
  rw [List.getD_eq_getElem?_getD, List.getElem?_eq_getElem hjy] at h1
  rw [show logB ys[j] = false from h1.symm]
  simp
/-- the body behind its label -/
noncomputable def rcptRest : Code := match Tryd.f16.body with
  | some (.seq _ (.scope (.seq _ (.seq _ (.seq _ (.seq _ (.seq _ (.seq _ (.seq _ (.seq _ r)))))))))) => r
  | _ => .ret
set_option maxRecDepth 100000 in
set_option maxHeartbeats 12800000 in
theorem rcpt_rest (s : List UInt8) (w : World) (z gc oc n1 nc : Nat) (qc : Option Addr) (ys : List Item) (t : ByteArray) (bd g : Bool) (gas : Nat) (u0 u1 u5 u6 u9 u10 u11 u12 u13 u14 u15 u16 u17 u18 u19 u20 u21 u22 u23 u24 u25 u26 u27 u28 u29 u30 u31 u32 u33 u34 u35 u36 u37 u38 u39 u40 u41 u42 u43 u44 u45 u46 u47 u48 u49 u50 u51 u52 u53 u54 u55 u56 u57 u58 u59 u60 u61 u62 u63 u64 u65 u66 u67 u68 u69 u70 u71 u72 u73 u74 u75 u76 u77 u78 u79 u80 u81 u82 u83 u84 u85 u86 u87 u88 u89 u90 u91 u92 u93 u94 u95 u96 u97 u98 u99 u100 u101 u102 u103 u104 u105 u106 u107 u108 u109 u110 u111 u112 : Value) (W : World)
    (HB : Hid (Below w.heap.size w W)) (hz : W.heap.size = z + 3) (hwz : w.heap.size < z) (h0 : HasCells W w.heap.size rcptZ 38)
    (h4 : HasCells W z [.bool true, .string t, .slice (some ⟨gc, oc, none⟩) 3 n1] 51) (h7 : HasCells W (z + 1) [.bool bd] 4) (h8 : HasCells W (z + 2) [.bool g, .int .u64 gas, .slice none 0 0] 38)
    (h9 : W.cell? ⟨gc, oc + 8, none⟩ = some (.slice qc ys.length nc)) (hrd : Reads W z (.slice qc ys.length nc) ys) (hlen : ys.length ≤ 65536) (hch : ∀ y ∈ ys, ∀ z ∈ y.list, z.list.length ≤ 1099511627775)
    (hgood : bd = false → ys.all logB = true → rcptOf s = (g, gas, ys.map logI) ∧ rcptErr s = 0) (hbad : (bd = true ∨ ys.all logB = false) → rcptOf s = (false, 0, []) ∧ rcptErr s = 160) :
    rcptRest.wpIn Fence.wide 9 Tryd.prog (Exit.noGoto (bodyPostM Fence.wide 9 Tryd.prog Tryd.f16 (fun e w' => RcptIs s e w w'))) ⟨#[u0, u1, .pointer (some ⟨w.heap.size, 0, none⟩), .int .i64 0, .pointer (some ⟨z, 0, none⟩), u5, u6, .pointer (some ⟨z + 1, 0, none⟩), .pointer (some ⟨z + 2, 0, none⟩), u9, u10, u11, u12, u13, u14, u15, u16, u17, u18, u19, u20, u21, u22, u23, u24, u25, u26, u27, u28, u29, u30, u31, u32, u33, u34, u35, u36, u37, u38, u39, u40, u41, u42, u43, u44, u45, u46, u47, u48, u49, u50, u51, u52, u53, u54, u55, u56, u57, u58, u59, u60, u61, u62, u63, u64, u65, u66, u67, u68, u69, u70, u71, u72, u73, u74, u75, u76, u77, u78, u79, u80, u81, u82, u83, u84, u85, u86, u87, u88, u89, u90, u91, u92, u93, u94, u95, u96, u97, u98, u99, u100, u101, u102, u103, u104, u105, u106, u107, u108, u109, u110, u111, u112], []⟩ W := by
  have c4 := h4.cell (j := 2) rfl
  have HRD := Lib.hid hrd
  have HLEN := Lib.hid hlen
  have HCH := Lib.hid hch
  have HGOOD := Lib.hid hgood
  have HBAD := Lib.hid hbad
  have H0 := Lib.hid h0
  have H7 := Lib.hid h7
  have H8 := Lib.hid h8
  obtain ⟨N, hN⟩ : ∃ N, ys.length = N := ⟨_, rfl⟩
  rw [hN] at h9 HRD
  have HN := Lib.hid hN
  clear h4 hrd hlen hch hgood hbad h0 h7 h8 hN
  show Code.wpIn _ _ _ _ _ _ _
  dsimp only [rcptRest, Tryd.f16]
  gi_wp2_with (refine ⟨trivial, ?_⟩; gi_at_call 42; refine (logs_any Fence.wide _ trivial rfl _ ⟨_, _, _, rfl⟩ _).mono ?_; rintro e w' ⟨rfl, rfl⟩)
  obtain ⟨W0, hW0⟩ : ∃ W', W.alloc (.cells #[.slice qc N nc] 49) = W' := ⟨_, rfl⟩
  have hb0 : Below W.heap.size W W0 := by rw [← hW0]; exact laid1 W _
  have hz0 : W0.heap.size = z + 4 := by rw [← hW0]; simp; omega
  have HBX := Lib.hid (show Boxed W0 (z + 3) 49 (.slice qc N nc) from by
    rw [← hW0]
    have h := Boxed.new W 49 (.slice qc N nc)
    rwa [hz] at h)
  have HRD0 := Lib.hid (show Reads W0 z (.slice qc N nc) ys from ReadsIn.kept HRD.out (fun g u o hg hc => (hb0.cell (p := ⟨g, o, none⟩) (by show g < _; omega)).trans hc) (fun _ h => h))
  have hV0 : LgV w z bd g gas (.slice none 0 0) [] W0 := ⟨by simp, H7.out.after hb0, H8.out.after hb0, RowL.nil _ _, H0.out.after hb0, HB.out.trans (hb0.mono HB.out.size), by omega⟩
  rw [hW0]
  have HZ0 := Lib.hid hz0
  have HWZ := Lib.hid hwz
  clear hW0 hb0 h9 c4 H0 H7 H8
  have hz04 : z + 4 ≤ W0.heap.size := by omega
  refine wpIn_rangeFunc_X rfl (by omega) (gf := 64) (lb := #[.pointer (some ⟨z + 3, 0, none⟩)]) rfl trivial (enters_of Tryd.func64 (by kernel_rfl) rfl)
    (encs := encL) (Step := StepL) (Good := GoodL ys) (Kp := KeepL z (z + 3)) (S := fun xs => RelL ys xs ∧ xs.length = ys.length) (Sp := RelL ys) (w0 := W0)
    (fun l J Jx W1 hW _ _ hY h0 => logs_body _ (by omega) l (z + 3) z ys qc nc (by have := HLEN.out; omega) HCH.out J Jx hY W1 (by rw [HN.out]; exact (hW.block _ HBX.out.lt).trans HBX.out) (by have := hW.size; omega)
      (by rw [HN.out]; exact ReadsIn.kept HRD0.out (fun g u o hg hc => (hW.cell (p := ⟨g, o, none⟩) (by show g < _; omega)).trans hc) (fun _ h => h)) h0)
    KeepL.trans (fun W1 l o o' hl _ _ _ => ⟨by simp, fun g hg => World.putObj_heap_other (by rcases hg with hg | hg <;> omega)⟩) (Below.refl _ _) (fun _ => rfl)
    (fun A B k o hst hk hA _ => (Below.block hst k (Array.getElem?_eq_some_iff.1 hA).1).trans hA)
    (fun pre W1 => ∃ v, LgV w z bd g gas v pre W1) (LgX w z)
    (fun pre x a' W1 => ∃ v xb p m c, x.1.2 = .slice p m c ∧ a' = { tmps := #[u0, u1, .pointer (some ⟨w.heap.size, 0, none⟩), .int .i64 0, .pointer (some ⟨z, 0, none⟩), u5, u6, .pointer (some ⟨z + 1, 0, none⟩), .pointer (some ⟨z + 2, 0, none⟩), .pointer (some ⟨xb, 0, none⟩), .bool x.2, u11, u12, u13, u14, u15, u16, u17, u18, u19, u20, u21, u22, u23, u24, u25, u26, u27, u28, u29, u30, u31, u32, u33, u34, u35, u36, u37, u38, u39, u40, u41, u42, u43, u44, u45, u46, u47, u48, u49, u50, u51, u52, u53, u54, u55, u56, u57, u58, u59, u60, u61, u62, u63, u64, u65, u66, u67, u68, u69, u70, u71, u72, u73, u74, u75, u76, u77, u78, u79, u80, u81, u82, u83, u84, u85, u86, u87, u88, u89, u90, u91, u92, u93, .pointer (some ⟨z, 2, none⟩), .slice (some ⟨gc, oc, none⟩) 3 n1, .pointer (some ⟨gc, oc + 6, none⟩), .pointer (some ⟨gc, oc + 8, none⟩), .slice qc N nc, .func (.func 64) #[] #[.pointer (some ⟨z + 3, 0, none⟩)], .agg #[.string x.1.1.addr, .slice p m c, .string x.1.1.data], .bool x.2, u102, u103, u104, u105, u106, u107, u108, u109, u110, u111, u112], defers := [] } ∧ LgV w z bd g gas v pre W1 ∧ z + 4 ≤ xb ∧ HasCells W1 xb [.string x.1.1.addr, .slice p m c, .string x.1.1.data] 64 ∧
      (x.2 = true → StrsIn W1 (fun q => z + 4 ≤ q ∧ v.ownBlock ≠ some q) (.slice p m c) x.1.1.tops) ∧ pre.length < ys.length)
    ?own ?ownx1 ?ownx (fun pre A B ⟨v, h⟩ hst => ⟨v, h.step hst⟩) (fun c pre A B h hst => h.step hst) ⟨_, hV0⟩ ?assign ?body ?done ?stop
  case own =>
    rintro pre W1 W2 row ⟨v, h⟩ hg' hr
    exact ⟨v, h.grown hwz hg' (fun r e => ⟨by have := (hr r e).1; omega, (hr r e).2⟩)⟩
  case ownx1 =>
    rintro c pre W1 W2 row h hg' hr
    exact h.grown hwz hg' (fun r e => ⟨by have := (hr r e).1; omega, (hr r e).2⟩)
  case ownx =>
    rintro pre x a' _ W1 W2 row ⟨v, xb, p, m, c, h1, h2, h3, h4, h5, h6, h7⟩ hg' hr
    exact ⟨v, xb, p, m, c, h1, h2, h3.grown hwz hg' (fun r e => ⟨by have := (hr r e).1; omega, (hr r e).2⟩), h4, h5.grown hg' (fun r e => (hr r e).2), fun e => (h6 e).grown hg' (fun r e => (hr r e).2), h7⟩
  case assign =>
    rintro l pre ⟨⟨⟨a, tops, d⟩, u⟩, b⟩ Wa Wb K ⟨v, hV⟩ hst ⟨hlt, ⟨p, m, c, hxv⟩, hlb, hgd⟩ hK
    dsimp only at hxv hlb hgd
    subst hxv
    have hV2 := hV.step hst
    have HVL := Lib.hid (show ∀ k, v.ownBlock = some k → k < Wa.heap.size from fun k e => (hV.2.2.2.1.1.lt k e).2)
    have HV2 := Lib.hid hV2
    have HGD := Lib.hid hgd
    have HKK := Lib.hid hK
    clear hlb
    have HZA := Lib.hid hV.2.2.2.2.2.2
    have HZB := Lib.hid hV2.2.2.2.2.2.2
    clear hV hst hV2 hgd hK
    simp only [encL]
    gi_wp2
    obtain ⟨xb, hxb⟩ : ∃ q, Wb.heap.size = q := ⟨_, rfl⟩
    have hgr := World.grownBy_alloc Wb (.cells #[.string a, .slice p m c, .string d] 64) none
    have hcl := HasCells.new Wb [.string a, .slice p m c, .string d] 64
    rw [hxb] at hcl ⊢
    refine HKK.out _ _ ((KeepsOthers.alloc _ _).from _) (KeepL.below (laid1 Wb _) (by have := HZB.out; omega) (by have := HZB.out; omega)) ⟨v, xb, p, m, c, rfl, ?_, HV2.out.grown HWZ.out hgr (fun r e => by cases e), by have := HZB.out; omega, hcl, fun e => ?_, hlt⟩
    · rfl
    · refine ((HGD.out e).2.grown hgr (fun r e => by cases e)).sub (fun q hq _ => ⟨by have := HZA.out; omega, fun e2 => by have := HVL.out q e2; omega⟩)
  case body =>
    rintro l pre ⟨⟨⟨a, tops, d⟩, u⟩, b⟩ a' W1 hl ⟨r, hr⟩ ⟨v, xb, p, m, c, hu, rfl, hV, hxb, hxc, hst, hlt⟩
    dsimp only at hu hxc hst
    subst hu
    obtain ⟨v1, v2, v3, v4, v5, v6, v7⟩ := hV
    cases b with
    | false =>
      have c7 := v2.cell (j := 0) rfl
      have f7 := v2.frozen 0
      have V2 := Lib.hid v2
      have V5 := Lib.hid v5
      have V6 := Lib.hid v6
      clear v1 v2 v3 v4 v5 v6 hxc hst
      dsimp only
      gi_wp2
      exact ⟨(KeepsOthers.setCell _ _ _).from _, rfl, ⟨_, List.mem_append_right _ (List.mem_singleton.2 rfl), rfl⟩, V2.out.set 0 (.bool true), V5.out.setOther (by omega) _, V6.out.setCell (p := ⟨z + 1, 0, none⟩) (by show w.heap.size ≤ z + 1; omega) _⟩
    | true =>
      obtain ⟨pv, cv, rfl⟩ := v4.form
      rw [List.length_map] at v3 v4 hst
      have c8 := v3.cell (j := 2) rfl
      have x0 := hxc.cell (j := 0) rfl
      have x1 := hxc.cell (j := 1) rfl
      have x2 := hxc.cell (j := 2) rfl
      have HVV := Lib.hid (And.intro v1 (And.intro v2 (And.intro v3 (And.intro v5 v6))))
      have HV4 := Lib.hid v4
      have HSTT := Lib.hid (hst rfl)
      have hpl : pre.length ≤ 65536 := by have := HLEN.out; omega
      have hlo := laid1 W1 (.cells (logCells [((⟨a, tops, d⟩ : LogD), Value.slice p m c)]).toArray 64)
      have HV4A := Lib.hid (v4.after hlo)
      have HLO := Lib.hid hlo
      have hown8 : ∀ k, (Value.slice pv pre.length cv).ownBlock = some k → z + 4 ≤ k ∧ k < W1.heap.size := v4.1.lt
      have HOWN := Lib.hid hown8
      have HCEL := Lib.hid (show ∀ k o, (Value.slice pv pre.length cv).ownBlock = some k → W1.heap[k]? = some o → o.isCells = true from fun k o e ho => by
        obtain ⟨_, ⟨e2, _⟩ | ⟨g', cap, cur, e2, _, hgg, _⟩⟩ := v4.1
        · rw [e2] at e; cases e
        · rw [e2] at e; cases e; rw [hgg] at ho; cases ho; rfl)
      clear v1 v2 v3 v4 v5 v6 hxc hst hlo hown8 hr
      dsimp only
      gi_wp2_with (gi_at_builtin; refine wpListIn_appendL rfl _ _ rfl (z + 4) _ (pre.map Prod.fst) rfl HV4A.out.1 ⟨W1.heap.size, 0, none⟩ 1 ((⟨a, tops, d⟩ : LogD), Value.slice p m c) ⟨_, _, _, rfl⟩ rfl ?c0 ?c1 ?c2 ?_)
      case c0 => exact fun j u hu => by rw [addr_add']; exact cells_at W1 (logCells [((⟨a, tops, d⟩ : LogD), Value.slice p m c)]) _ j u hu
      case c1 => rw [List.length_map]; omega
      case c2 => exact Nat.le_trans v7 HLO.out.size
      intro v' w' ho' hg' hv'
      obtain ⟨WA, hWA⟩ : ∃ W', W1.alloc (.cells (logCells [((⟨a, tops, d⟩ : LogD), Value.slice p m c)]).toArray 64) = W' := ⟨_, rfl⟩
      have hA := HLO.out
      rw [hWA] at hA HV4A
      have hg2 : WA.grownBy w' (Value.slice pv pre.length cv).ownBlock := by rw [← hWA]; exact hg'
      have hv2 : v'.ownBlock = (Value.slice pv pre.length cv).ownBlock ∨ v'.ownBlock = some WA.heap.size := by rw [← hWA, World.size_alloc]; exact hv'
      have hsame : ∀ k, k < W1.heap.size → (Value.slice pv pre.length cv).ownBlock ≠ some k → w'.heap[k]? = W1.heap[k]? := fun k hk hne => (hg2.block k (Nat.lt_of_lt_of_le hk hA.size) (fun e => hne e.symm)).trans (hA.block k hk)
      have hlow : ∀ k, k < z + 4 → w'.heap[k]? = W1.heap[k]? := fun k hk => hsame k (by omega) (fun e => by have := (HOWN.out k e).1; omega)
      have h8 : HasCells w' (z + 2) [.bool g, .int .u64 gas, .slice pv pre.length cv] 38 := HVV.out.2.2.1.kept (hlow _ (by omega))
      have h7 : HasCells w' (z + 1) [.bool bd] 4 := HVV.out.2.1.kept (hlow _ (by omega))
      have h0 : HasCells w' w.heap.size rcptZ 38 := HVV.out.2.2.2.1.kept (hlow _ (by omega))
      have hrow : RowL (z + 4) w' v' (pre.map Prod.fst ++ [((⟨a, tops, d⟩ : LogD), Value.slice p m c)]) := RowL.snoc HV4A.out ((HSTT.out.kept hA.size (fun q hq hl => hA.block q hl) (fun q hq _ => hq))) ho' hg2 hv2
      have hbw : Below w.heap.size w w' := (HVV.out.2.2.2.2.trans (hA.mono HVV.out.2.2.2.2.size)).grown hg2 (by have := HVV.out.2.2.2.2.size; have := hA.size; omega) (fun k e => by have := (HOWN.out k e).1; omega)
      have hszw : W1.heap.size ≤ w'.heap.size := Nat.le_trans hA.size hg2.size
      have hvf : ∃ p' n' c', v' = .slice p' n' c' := by
        obtain ⟨p', c', e⟩ := hrow.form
        exact ⟨p', _, c', e⟩
      obtain ⟨p', n', c', rfl⟩ := hvf
      have e8 := h8.cell (j := 2) rfl
      have f8 := h8.frozen 2
      have HF := Lib.hid (And.intro hsame (And.intro h8 (And.intro h7 (And.intro h0 (And.intro hrow (And.intro hbw hszw))))))
      have HVA := Lib.hid hv2
      have HLOW := Lib.hid hlow
      have HVT := Lib.hid HVV.out.1
      have HAS := Lib.hid hA.size
      clear ho' hg' hv' hWA hA hg2 hv2 hsame hlow h8 h7 h0 hrow hbw hszw HV4 HV4A HSTT HLO HVV c8 x0 x1 x2
      gi_wp2
      refine ⟨⟨by rw [World.size_setCell]; exact HF.out.2.2.2.2.2.2, fun k o hk ho hc => ?_⟩, ⟨by rw [World.size_setCell]; exact HF.out.2.2.2.2.2.2, fun q hq => ?_⟩, .slice p' n' c', ?_, ?_, ?_, ?_, ?_, ?_, ?_⟩
      · refine (Below.heap_setCell _ ⟨z + 2, 2, none⟩ _ k (by show k ≠ z + 2; omega)).trans ((HF.out.1 k (Array.getElem?_eq_some_iff.1 ho).1 (fun e => by have := HCEL.out k o e ho; rw [hc] at this; cases this)).trans ho)
      · refine (Below.heap_setCell _ ⟨z + 2, 2, none⟩ _ q (by show q ≠ z + 2; rcases hq with hq | hq <;> omega)).trans (HLOW.out q (by rcases hq with hq | hq <;> omega))
      · intro q hq
        rcases List.mem_append.1 hq with hq | hq
        · exact HVT.out q hq
        · rw [List.mem_singleton.1 hq]
      · exact HF.out.2.2.1.setOther (by omega) _
      · exact HF.out.2.1.set 2 _
      · rw [List.map_append]
        exact HF.out.2.2.2.2.1.kept (by rw [World.size_setCell]; exact Nat.le_refl _) (fun k hk _ => Below.heap_setCell _ ⟨z + 2, 2, none⟩ _ k (by show k ≠ z + 2; omega))
      · exact HF.out.2.2.2.1.setOther (by omega) _
      · exact HF.out.2.2.2.2.2.1.setCell (p := ⟨z + 2, 2, none⟩) (by show w.heap.size ≤ z + 2; omega) _
      · rw [World.size_setCell]; have := HF.out.2.2.2.2.2.2; omega
  case done =>
    rintro D xs W1 hD ⟨hrel, hxl⟩ ⟨v, hV⟩ hK
    obtain ⟨v1, v2, v3, v4, v5, v6, v7⟩ := hV
    obtain ⟨ha1, ha2⟩ := hrel.all hxl v1
    have HAL := Lib.hid (And.intro ha1 ha2)
    have H5 := Lib.hid v5
    have H6 := Lib.hid v6
    have HKD := Lib.hid hK
    have hwD : w.heap.size < D := by omega
    cases bd with
    | true =>
      have c7 := v2.cell (j := 0) rfl
      have d0 := v5.cell (j := 0) rfl
      have d1 := v5.cell (j := 1) rfl
      have d2 := v5.cell (j := 2) rfl
      have f0 := v5.frozen 0
      have f1 := v5.frozen 1
      have f2 := v5.frozen 2
      clear v1 v2 v3 v4 v5 v6 hrel hK ha1 ha2
      gi_wp2
      have hf : HasCells _ w.heap.size rcptZ 38 := ((H5.out.set 0 (.bool false)).set 1 (.int .u64 0)).set 2 (.slice none 0 0)
      have hbf := three_below H6.out (.bool false) (.int .u64 0) (.slice none 0 0)
      obtain ⟨Wf, hWf⟩ : ∃ W', ((W1.setCell ⟨w.heap.size, 0, none⟩ (.bool false)).setCell ⟨w.heap.size, 1, none⟩ (.int .u64 0)).setCell ⟨w.heap.size, 2, none⟩ (.slice none 0 0) = W' := ⟨_, rfl⟩
      have hK' : Wf.heap[D]? = some (.deferred (some [])) := by
        rw [← hWf]
        have hDne : D ≠ w.heap.size := by omega
        exact (Below.heap_setCell _ ⟨w.heap.size, 2, none⟩ _ D hDne).trans ((Below.heap_setCell _ ⟨w.heap.size, 1, none⟩ _ D hDne).trans ((Below.heap_setCell _ ⟨w.heap.size, 0, none⟩ _ D hDne).trans HKD.out))
      rw [hWf] at hf hbf ⊢
      have hgr := grownBy_putObj' Wf D (.deferred none)
      have hrow : ∀ r, some D = some r → ∃ o : Obj, Wf.heap[r]? = some o ∧ o.isCells = false := fun r e => by cases e; exact ⟨_, hK', rfl⟩
      refine ⟨by simp, .inl ⟨_, _, rfl, run_takeDeferred hK', ?_⟩⟩
      refine ⟨_, results_cells2 rfl _ _ w.heap.size rcptZ _ (by rfl) (hf.grown hgr hrow).range Tryd.underlying38 rfl infoRcpt, ?_⟩
      obtain ⟨e1, e2⟩ := HBAD.out (.inl (by simp))
      exact ⟨false, 0, [], .slice none 0 0, by rw [e2]; rfl, e1, Logs.nil _, ⟨_, _, _, rfl⟩, hbf.grown hgr hbf.size (fun r e => by cases e; omega)⟩
    | false =>
      obtain ⟨pv, cv, rfl⟩ := v4.form
      have c7 := v2.cell (j := 0) rfl
      have e0 := v3.cell (j := 0) rfl
      have e1 := v3.cell (j := 1) rfl
      have e2 := v3.cell (j := 2) rfl
      have d0 := v5.cell (j := 0) rfl
      have d1 := v5.cell (j := 1) rfl
      have d2 := v5.cell (j := 2) rfl
      have f0 := v5.frozen 0
      have f1 := v5.frozen 1
      have f2 := v5.frozen 2
      have H4 := Lib.hid v4
      clear v1 v2 v3 v4 v5 v6 hrel hK ha1 ha2
      gi_wp2
      have hf : HasCells _ w.heap.size [.bool g, .int .u64 gas, .slice pv (xs.map Prod.fst).length cv] 38 := ((H5.out.set 0 (.bool g)).set 1 (.int .u64 gas)).set 2 (.slice pv (xs.map Prod.fst).length cv)
      have hbf := three_below H6.out (.bool g) (.int .u64 gas) (.slice pv (xs.map Prod.fst).length cv)
      have hrw : RowL (z + 4) (((W1.setCell ⟨w.heap.size, 0, none⟩ (.bool g)).setCell ⟨w.heap.size, 1, none⟩ (.int .u64 gas)).setCell ⟨w.heap.size, 2, none⟩ (.slice pv (xs.map Prod.fst).length cv)) (.slice pv (xs.map Prod.fst).length cv) (xs.map Prod.fst) := H4.out.kept (by rw [World.size_setCell, World.size_setCell, World.size_setCell]; exact Nat.le_refl _) (fun k hk _ => by
        have hne : k ≠ w.heap.size := by omega
        exact (Below.heap_setCell _ ⟨w.heap.size, 2, none⟩ _ k hne).trans ((Below.heap_setCell _ ⟨w.heap.size, 1, none⟩ _ k hne).trans (Below.heap_setCell _ ⟨w.heap.size, 0, none⟩ _ k hne)))
      have hK0 : (((W1.setCell ⟨w.heap.size, 0, none⟩ (.bool g)).setCell ⟨w.heap.size, 1, none⟩ (.int .u64 gas)).setCell ⟨w.heap.size, 2, none⟩ (.slice pv (xs.map Prod.fst).length cv)).heap[D]? = some (.deferred (some [])) := by
        have hDne : D ≠ w.heap.size := by omega
        exact (Below.heap_setCell _ ⟨w.heap.size, 2, none⟩ _ D hDne).trans ((Below.heap_setCell _ ⟨w.heap.size, 1, none⟩ _ D hDne).trans ((Below.heap_setCell _ ⟨w.heap.size, 0, none⟩ _ D hDne).trans HKD.out))
      rw [List.length_map, hxl] at hf hbf hrw hK0
      obtain ⟨Wf, hWf⟩ : ∃ W', ((W1.setCell ⟨w.heap.size, 0, none⟩ (.bool g)).setCell ⟨w.heap.size, 1, none⟩ (.int .u64 gas)).setCell ⟨w.heap.size, 2, none⟩ (.slice pv ys.length cv) = W' := ⟨_, rfl⟩
      rw [hWf] at hf hbf hrw hK0
      try rw [hWf]
      have hgr := grownBy_putObj' Wf D (.deferred none)
      have hrow : ∀ r, some D = some r → ∃ o : Obj, Wf.heap[r]? = some o ∧ o.isCells = false := fun r e => by cases e; exact ⟨_, hK0, rfl⟩
      refine ⟨by simp, .inl ⟨_, _, rfl, run_takeDeferred hK0, ?_⟩⟩
      refine ⟨_, results_cells2 rfl _ _ w.heap.size [.bool g, .int .u64 gas, .slice pv ys.length cv] _ (by rfl) (hf.grown hgr hrow).range Tryd.underlying38 rfl infoRcpt, ?_⟩
      obtain ⟨q1, q2⟩ := HGOOD.out (by simp) HAL.out.1
      have hlg := (hrw.grown hgr hrow).logs
      rw [HAL.out.2] at hlg
      exact ⟨g, gas, ys.map logI, .slice pv ys.length cv, by rw [q2]; rfl, q1, hlg, ⟨_, _, _, rfl⟩, hbf.grown hgr hbf.size (fun r e => by cases e; omega)⟩
  case stop =>
    rintro D c pre W1 hD hrel ⟨rfl, ⟨q, hq1, hq2⟩, v2, v5, v6⟩ hK
    have HNO := Lib.hid (hrel.none hq1 hq2)
    have H5 := Lib.hid v5
    have H6 := Lib.hid v6
    have HKD := Lib.hid hK
    have hwD : w.heap.size < D := by omega
    have c7 := v2.cell (j := 0) rfl
    have d0 := v5.cell (j := 0) rfl
    have d1 := v5.cell (j := 1) rfl
    have d2 := v5.cell (j := 2) rfl
    have f0 := v5.frozen 0
    have f1 := v5.frozen 1
    have f2 := v5.frozen 2
    clear v2 v5 v6 hrel hK hq1 hq2
    gi_wp2
    have hf : HasCells _ w.heap.size rcptZ 38 := ((H5.out.set 0 (.bool false)).set 1 (.int .u64 0)).set 2 (.slice none 0 0)
    have hbf := three_below H6.out (.bool false) (.int .u64 0) (.slice none 0 0)
    obtain ⟨Wf, hWf⟩ : ∃ W', ((W1.setCell ⟨w.heap.size, 0, none⟩ (.bool false)).setCell ⟨w.heap.size, 1, none⟩ (.int .u64 0)).setCell ⟨w.heap.size, 2, none⟩ (.slice none 0 0) = W' := ⟨_, rfl⟩
    have hK' : Wf.heap[D]? = some (.deferred (some [])) := by
      rw [← hWf]
      have hDne : D ≠ w.heap.size := by omega
      exact (Below.heap_setCell _ ⟨w.heap.size, 2, none⟩ _ D hDne).trans ((Below.heap_setCell _ ⟨w.heap.size, 1, none⟩ _ D hDne).trans ((Below.heap_setCell _ ⟨w.heap.size, 0, none⟩ _ D hDne).trans HKD.out))
    rw [hWf] at hf hbf ⊢
    have hgr := grownBy_putObj' Wf D (.deferred none)
    have hrow : ∀ r, some D = some r → ∃ o : Obj, Wf.heap[r]? = some o ∧ o.isCells = false := fun r e => by cases e; exact ⟨_, hK', rfl⟩
    refine ⟨by simp, .inl ⟨_, _, rfl, run_takeDeferred hK', ?_⟩⟩
    refine ⟨_, results_cells2 rfl _ _ w.heap.size rcptZ _ (by rfl) (hf.grown hgr hrow).range Tryd.underlying38 rfl infoRcpt, ?_⟩
    obtain ⟨e1, e2⟩ := HBAD.out (.inr HNO.out)
    exact ⟨false, 0, [], .slice none 0 0, by rw [e2]; rfl, e1, Logs.nil _, ⟨_, _, _, rfl⟩, hbf.grown hgr hbf.size (fun r e => by cases e; omega)⟩
end Go.Proofs.YtmjblnhnadffmaaDoor

/- Contract of acct.ReceiptFrom. -/
namespace Go.Proofs.YtmjblnhnadffmaaDoor
open Go.RowKit Go.Shelf Go.Lib
attribute [local go_sem] Oper.semAt_some

theorem len_putAll : ∀ l : List Item, l.length ≤ (putAll l).length
  | [] => by simp
  | a :: r => by
    have := put_pos a
    have := len_putAll r
    rw [putAll, List.length_append, List.length_cons]
    omega
theorem len_put {y : Item} (h : wrong y = false) : y.list.length ≤ (put y).length := by
  cases hl : y.isList with
  | true =>
    have h1 : (putAll y.list).length < (put y).length := by rw [put_list hl]; exact framed_le _ _
    have := len_putAll y.list
    omega
  | false =>
    rw [wrong_txt h hl]
    simp [textItem, Item.list]
theorem child_put {x y : Item} (h : wrong x = false) (hy : y ∈ x.list) : wrong y = false ∧ (put y).length ≤ (put x).length := by
  cases hl : x.isList with
  | true =>
    have h1 : (putAll x.list).length < (put x).length := by rw [put_list hl]; exact framed_le _ _
    have := put_child hy
    exact ⟨wrongs_mem (wrong_lst h hl).2 hy, by omega⟩
  | false =>
    rw [wrong_txt h hl] at hy
    cases hy
theorem three_alloc (w1 : World) (A B C : List Value) (ta tb tc : TypeId) : HasCells (((w1.alloc (.cells A.toArray ta)).alloc (.cells B.toArray tb)).alloc (.cells C.toArray tc)) w1.heap.size A ta ∧ HasCells (((w1.alloc (.cells A.toArray ta)).alloc (.cells B.toArray tb)).alloc (.cells C.toArray tc)) (w1.heap.size + 1) B tb ∧
    HasCells (((w1.alloc (.cells A.toArray ta)).alloc (.cells B.toArray tb)).alloc (.cells C.toArray tc)) (w1.heap.size + 2) C tc ∧ Below w1.heap.size w1 (((w1.alloc (.cells A.toArray ta)).alloc (.cells B.toArray tb)).alloc (.cells C.toArray tc)) ∧ (((w1.alloc (.cells A.toArray ta)).alloc (.cells B.toArray tb)).alloc (.cells C.toArray tc)).heap.size = w1.heap.size + 3 := by
  have a := HasCells.new w1 A ta
  have b := HasCells.new (w1.alloc (.cells A.toArray ta)) B tb
  have c := HasCells.new ((w1.alloc (.cells A.toArray ta)).alloc (.cells B.toArray tb)) C tc
  simp only [World.size_alloc] at b c
  exact ⟨(a.alloc _).alloc _, b.alloc _, c, (laid2 w1 _ _).alloc (by simp; omega) _, by simp⟩
set_option maxRecDepth 100000 in
set_option maxHeartbeats 12800000 in
theorem rcptFrom_any (s : List UInt8) (w : World) (hs : s.length ≤ 1099511627776) : Calls Tryd.prog 16 #[.string ⟨s.toArray⟩] w fun e w' => RcptIs s e w w' := by
  obtain ⟨x, n, hx⟩ : ∃ x n, decode s = (x, n) := ⟨_, _, rfl⟩
  have HBAD := Lib.hid (fun h : rcptB x n = false => rcpt_bad hx h)
  have HGOOD := Lib.hid (fun h : rcptB x n = true => rcpt_good hx h)
  have H1 := Lib.hid (fun W => decode_lit hx hs W)
  have hcase : (n = 40 ∨ n = 41 ∨ n = 42) ∨ n = 0 := by
    rcases decode_cases s with ⟨y, e⟩ | e | e | e <;> (have e2 := e.symm.trans hx; cases e2; simp)
  have HXL := Lib.hid (show x.list.length ≤ 1099511627775 ∧ ∀ y ∈ x.list, (put y).length ≤ 65536 ∧ wrong y = false ∧ y.text.length ≤ 65536 from ⟨by have := decode_list_len hx; omega, fun y hy => ⟨(decode_child hx hy).2.1, (decode_child hx hy).1, (decode_child hx hy).2.2⟩⟩)
  obtain ⟨m, hm⟩ : ∃ m, x.list.length = m := ⟨_, rfl⟩
  have HM := Lib.hid hm
  clear hx hm
  refine (callsIn_wide (n := 9)).1 ?_
  refine callsIn_of_wp_marks Tryd.func16 rfl trivial ?_ rfl
  simp only [Tryd.ntmps16, List.size_toArray, List.length_cons, List.length_nil, Nat.reduceAdd, Nat.reduceSub, Array.replicate_succ, Array.replicate_zero, List.push_toArray, List.append_toArray, List.nil_append, List.cons_append]
  gi_wp2
  refine wpIn_scope_straight ?_
  gi_wp2_with fail
  refine ⟨trivial, ?_⟩
  gi_at_call 24
  refine (callsIn_wide.2 (H1.out _)).mono ?_
  rintro e w1 ⟨hb1, p, c, rfl, HR⟩
  obtain ⟨z, hz⟩ : ∃ z, w1.heap.size = z := ⟨_, rfl⟩
  have HC1 := Lib.hid ((HasCells.new w rcptZ 38).after hb1)
  have HB1 := Lib.hid ((laid1 w (.cells rcptZ.toArray 38)).trans (hb1.mono (by simp)))
  have HRR := Lib.hid HR.out
  rw [HM.out] at HRR ⊢
  obtain ⟨isl, hisl⟩ : ∃ l, x.isList = l := ⟨_, rfl⟩
  obtain ⟨t, htt⟩ : ∃ t, x.text = t := ⟨_, rfl⟩
  rw [hisl, htt]
  have HISL := Lib.hid hisl
  have HZE := Lib.hid hz
  have hlo := laid1 w1 (.cells #[.bool isl, .string ⟨t.toArray⟩, .slice p m c] 51)
  have HC2 := Lib.hid (HC1.out.alloc (.cells #[.bool isl, .string ⟨t.toArray⟩, .slice p m c] 51))
  have HB2 := Lib.hid (HB1.out.trans (hlo.mono HB1.out.size))
  have d0 := HC2.out.cell (j := 0) rfl
  have d1 := HC2.out.cell (j := 1) rfl
  have d2 := HC2.out.cell (j := 2) rfl
  have f0 := HC2.out.frozen 0
  have f1 := HC2.out.frozen 1
  have f2 := HC2.out.frozen 2
  clear hb1 HR hisl htt H1 hz
  rcases hcase with hcase | rfl
  · clear hlo
    rcases hcase with rfl | rfl | rfl
    · gi_wp2
      have hf : HasCells _ w.heap.size rcptZ 38 := ((HC2.out.set 0 (.bool false)).set 1 (.int .u64 0)).set 2 (.slice none 0 0)
      refine ⟨_, results_cells2 rfl _ _ w.heap.size rcptZ _ (by rfl) hf.range Tryd.underlying38 rfl infoRcpt, ?_⟩
      obtain ⟨e1, e2⟩ := HBAD.out (by unfold rcptB rcptShape; simp)
      exact ⟨false, 0, [], .slice none 0 0, by rw [e2]; rfl, e1, Logs.nil _, ⟨_, _, _, rfl⟩, three_below HB2.out _ _ _⟩
    · gi_wp2
      have hf : HasCells _ w.heap.size rcptZ 38 := ((HC2.out.set 0 (.bool false)).set 1 (.int .u64 0)).set 2 (.slice none 0 0)
      refine ⟨_, results_cells2 rfl _ _ w.heap.size rcptZ _ (by rfl) hf.range Tryd.underlying38 rfl infoRcpt, ?_⟩
      obtain ⟨e1, e2⟩ := HBAD.out (by unfold rcptB rcptShape; simp)
      exact ⟨false, 0, [], .slice none 0 0, by rw [e2]; rfl, e1, Logs.nil _, ⟨_, _, _, rfl⟩, three_below HB2.out _ _ _⟩
    · gi_wp2
      have hf : HasCells _ w.heap.size rcptZ 38 := ((HC2.out.set 0 (.bool false)).set 1 (.int .u64 0)).set 2 (.slice none 0 0)
      refine ⟨_, results_cells2 rfl _ _ w.heap.size rcptZ _ (by rfl) hf.range Tryd.underlying38 rfl infoRcpt, ?_⟩
      obtain ⟨e1, e2⟩ := HBAD.out (by unfold rcptB rcptShape; simp)
      exact ⟨false, 0, [], .slice none 0 0, by rw [e2]; rfl, e1, Logs.nil _, ⟨_, _, _, rfl⟩, three_below HB2.out _ _ _⟩
  · cases isl with
    | false =>
      clear hlo
      gi_wp2
      have hf : HasCells _ w.heap.size rcptZ 38 := ((HC2.out.set 0 (.bool false)).set 1 (.int .u64 0)).set 2 (.slice none 0 0)
      refine ⟨_, results_cells2 rfl _ _ w.heap.size rcptZ _ (by rfl) hf.range Tryd.underlying38 rfl infoRcpt, ?_⟩
      obtain ⟨e1, e2⟩ := HBAD.out (by unfold rcptB rcptShape; rw [HISL.out]; simp)
      exact ⟨false, 0, [], .slice none 0 0, by rw [e2]; rfl, e1, Logs.nil _, ⟨_, _, _, rfl⟩, three_below HB2.out _ _ _⟩
    | true =>
      by_cases h3m : m = 3
      · subst h3m
        obtain ⟨z0, z1, z2, hxl⟩ : ∃ a b c, x.list = [a, b, c] := ⟨_, _, _, getD3 Item.none HM.out⟩
        obtain ⟨-, gc, oc, rfl, hgc, hac⟩ := Reads.at HRR.out (by decide)
        rw [hxl] at hac
        obtain ⟨x00, x01, _⟩ := hac 0 z0 rfl
        obtain ⟨x10, x11, _⟩ := hac 1 z1 rfl
        obtain ⟨x20, x21, vc, x22, hvc⟩ := hac 2 z2 rfl
        obtain ⟨qc, nc, rfl⟩ := hvc.form
        simp only [Nat.zero_mul, Nat.one_mul, Nat.add_zero, Nat.add_assoc, Nat.reduceMul, Nat.reduceAdd] at x00 x01 x10 x11 x20 x21 x22
        obtain ⟨mc, hmc⟩ : ∃ m, z2.list.length = m := ⟨_, rfl⟩
        rw [hmc] at x22 hvc
        have HE := Lib.hid (fun W' (hb : Below w1.heap.size w1 W') => (show (W'.cell? ⟨gc, oc, none⟩ = some (.bool z0.isList) ∧ W'.cell? ⟨gc, oc + 1, none⟩ = some (.string ⟨z0.text.toArray⟩)) ∧ (W'.cell? ⟨gc, oc + 3, none⟩ = some (.bool z1.isList) ∧ W'.cell? ⟨gc, oc + 4, none⟩ = some (.string ⟨z1.text.toArray⟩)) ∧ (W'.cell? ⟨gc, oc + 6, none⟩ = some (.bool z2.isList) ∧ W'.cell? ⟨gc, oc + 8, none⟩ = some (.slice qc mc nc)) from
          ⟨⟨(hb.cell (p := ⟨gc, oc, none⟩) hgc).trans x00, (hb.cell (p := ⟨gc, oc + 1, none⟩) hgc).trans x01⟩, ⟨(hb.cell (p := ⟨gc, oc + 3, none⟩) hgc).trans x10, (hb.cell (p := ⟨gc, oc + 4, none⟩) hgc).trans x11⟩, ⟨(hb.cell (p := ⟨gc, oc + 6, none⟩) hgc).trans x20, (hb.cell (p := ⟨gc, oc + 8, none⟩) hgc).trans x22⟩⟩))
        have HXX := Lib.hid hxl
        have HMC := Lib.hid hmc
        have HVC := Lib.hid hvc
        have HGC := Lib.hid hgc
        have HSHP := Lib.hid (show rcptShape x 0 = (!z0.isList && (!z1.isList && z2.isList)) from by unfold rcptShape; rw [HISL.out, hxl]; simp [List.getD])
        obtain ⟨⟨y00, y01⟩, ⟨y10, y11⟩, y20, y22⟩ := HE.out _ hlo
        clear x00 x01 x10 x11 x20 x21 x22 hvc hac hmc hgc hxl
        obtain ⟨l0, hl0⟩ : ∃ b, z0.isList = b := ⟨_, rfl⟩
        obtain ⟨l1, hl1⟩ : ∃ b, z1.isList = b := ⟨_, rfl⟩
        obtain ⟨l2, hl2⟩ : ∃ b, z2.isList = b := ⟨_, rfl⟩
        rw [hl0] at y00 HSHP
        rw [hl1] at y10 HSHP
        rw [hl2] at y20 HSHP
        cases l0 with
        | true =>
          clear hlo hl0 hl1 hl2 y01 y10 y11 y20 y22
          gi_wp2
          have hf : HasCells _ w.heap.size rcptZ 38 := ((HC2.out.set 0 (.bool false)).set 1 (.int .u64 0)).set 2 (.slice none 0 0)
          refine ⟨_, results_cells2 rfl _ _ w.heap.size rcptZ _ (by rfl) hf.range Tryd.underlying38 rfl infoRcpt, ?_⟩
          obtain ⟨e1, e2⟩ := HBAD.out (by unfold rcptB; rw [HSHP.out]; rfl)
          exact ⟨false, 0, [], .slice none 0 0, by rw [e2]; rfl, e1, Logs.nil _, ⟨_, _, _, rfl⟩, three_below HB2.out _ _ _⟩
        | false =>
          cases l1 with
          | true =>
            clear hlo hl0 hl1 hl2 y01 y11 y20 y22
            gi_wp2
            have hf : HasCells _ w.heap.size rcptZ 38 := ((HC2.out.set 0 (.bool false)).set 1 (.int .u64 0)).set 2 (.slice none 0 0)
            refine ⟨_, results_cells2 rfl _ _ w.heap.size rcptZ _ (by rfl) hf.range Tryd.underlying38 rfl infoRcpt, ?_⟩
            obtain ⟨e1, e2⟩ := HBAD.out (by unfold rcptB; rw [HSHP.out]; rfl)
            exact ⟨false, 0, [], .slice none 0 0, by rw [e2]; rfl, e1, Logs.nil _, ⟨_, _, _, rfl⟩, three_below HB2.out _ _ _⟩
          | false =>
            cases l2 with
            | false =>
              clear hlo hl0 hl1 hl2 y01 y11 y22
              gi_wp2
              have hf : HasCells _ w.heap.size rcptZ 38 := ((HC2.out.set 0 (.bool false)).set 1 (.int .u64 0)).set 2 (.slice none 0 0)
              refine ⟨_, results_cells2 rfl _ _ w.heap.size rcptZ _ (by rfl) hf.range Tryd.underlying38 rfl infoRcpt, ?_⟩
              obtain ⟨e1, e2⟩ := HBAD.out (by unfold rcptB; rw [HSHP.out]; rfl)
              exact ⟨false, 0, [], .slice none 0 0, by rw [e2]; rfl, e1, Logs.nil _, ⟨_, _, _, rfl⟩, three_below HB2.out _ _ _⟩
            | true =>
              obtain ⟨nv0, ev0, hve0⟩ : ∃ a b, value z0.text = (a, b) := ⟨_, _, rfl⟩
              obtain ⟨nv1, ev1, hve1⟩ : ∃ a b, value z1.text = (a, b) := ⟨_, _, rfl⟩
              have HV0 := Lib.hid (fun W => valueA_lit ⟨z0.text.toArray⟩ (v := .tuple #[.int .u64 nv0, .int .i64 ev0]) (by show valueV z0.text = _; unfold valueV; rw [hve0]) W)
              have HV1 := Lib.hid (fun W => valueA_lit ⟨z1.text.toArray⟩ (v := .tuple #[.int .u64 nv1, .int .i64 ev1]) (by show valueV z1.text = _; unfold valueV; rw [hve1]) W)
              obtain ⟨gd, hgd⟩ : ∃ b, ((nv0 : Int) == 1) = b := ⟨_, rfl⟩
              have HE0 := Lib.hid hve0
              have HE1 := Lib.hid hve1
              have HGD := Lib.hid hgd
              clear hve0 hve1 hl0 hl1 hl2
              gi_wp2_with fail
              refine ⟨trivial, ?_⟩
              gi_at_call 41
              refine (callsIn_wide.2 (HV0.out _)).mono ?_
              rintro e w2 ⟨rfl, rfl⟩
              have A3 := Lib.hid (fun b => three_alloc w1 [.bool true, .string ⟨t.toArray⟩, .slice (some ⟨gc, oc, none⟩) 3 c] [.bool b] [.bool gd, .int .u64 0, .slice none 0 0] 51 4 38)
              have HZ2 := Lib.hid (show (rI x 2).list = z2.list from by unfold rI; rw [HXX.out]; rfl)
              have HNUM := Lib.hid (show rcptNums x = ((decide (ev0 = 0) && decide (nv0 ≤ 1)) && (decide (ev1 = 0) && decide (mc ≤ 20))) from by
                unfold rcptNums rI
                rw [HXX.out]
                simp only [List.getD_cons_zero, List.getD_cons_succ]
                rw [HE0.out, HE1.out, HMC.out])
              have HGV := Lib.hid (show (rcptGood x, rcptGas x, rcptLogs x) = (gd, nv1, z2.list.map logI) from by
                unfold rcptGood rcptGas rcptLogs rI
                rw [HXX.out]
                simp only [List.getD_cons_zero, List.getD_cons_succ]
                rw [HE0.out, HE1.out, ← HGD.out]
                by_cases h : nv0 = 1
                · rw [h]; rfl
                · rw [decide_eq_false h, show ((nv0 : Int) == 1) = false from by simp; omega])
              have HCL := Lib.hid (show z2.list.length ≤ 65536 ∧ ∀ y ∈ z2.list, ∀ q ∈ y.list, q.list.length ≤ 1099511627775 from by
                obtain ⟨a1, a2, _⟩ := HXL.out.2 z2 (by rw [HXX.out]; simp)
                refine ⟨Nat.le_trans (len_put a2) a1, fun y hy q hq => ?_⟩
                obtain ⟨b1, b2⟩ := child_put a2 hy
                obtain ⟨c1, c2⟩ := child_put b1 hq
                have := len_put c1
                omega)
              clear hlo y00 y01 y10 y11 y20 y22 d0 d1 d2 f0 f1 f2
              by_cases he0 : ev0 = 0
              · subst he0
                by_cases hn1 : 1 < nv0
                · have g6 : (1 : Int) < nv0 := by omega
                  obtain ⟨-, ⟨k10, k11⟩, -, k22⟩ := HE.out _ (A3.out true).2.2.2.1
                  have k11 : World.cell? _ ⟨gc, oc + 3 + 1, none⟩ = _ := k11
                  have k22 : World.cell? _ ⟨gc, oc + 6 + 2, none⟩ = _ := k22
                  gi_wp2_with fail
                  refine ⟨trivial, ?_⟩
                  gi_at_call 41
                  refine (callsIn_wide.2 (HV1.out _)).mono ?_
                  rintro e w2 ⟨rfl, rfl⟩
                  gi_wp2_with fail
                  refine wpIn_label ?_
                  rename_i K hK
                  have B3 := three_alloc w1 [.bool true, .string ⟨t.toArray⟩, .slice (some ⟨gc, oc, none⟩) 3 c] [.bool true] [.bool gd, .int .u64 nv1, .slice none 0 0] 51 4 38
                  have hnb : rcptNums x = !true := by rw [HNUM.out]; rw [decide_eq_false (show ¬ nv0 ≤ 1 by omega)]; simp
                  refine hK _ _ (rcpt_rest s w w1.heap.size gc oc c nc qc z2.list ⟨t.toArray⟩ true gd nv1 _ _ _ _ _ _ _ _ _ _ _ _ _ _ _ _ _ _ _ _ _ _ _ _ _ _ _ _ _ _ _ _ _ _ _ _ _ _ _ _ _ _ _ _ _ _ _ _ _ _ _ _ _ _ _ _ _ _ _ _ _ _ _ _ _ _ _ _ _ _ _ _ _ _ _ _ _ _ _ _ _ _ _ _ _ _ _ _ _ _ _ _ _ _ _ _ _ _ _ _ _ _ _ _ _ _ _ _ _ (Lib.hid (HB1.out.trans (B3.2.2.2.1.mono HB1.out.size))) B3.2.2.2.2 HC1.out.lt (HC1.out.after B3.2.2.2.1) B3.1 B3.2.1 B3.2.2.1 (by rw [HMC.out]; exact (HE.out _ B3.2.2.2.1).2.2.2) (by rw [HMC.out]; exact HVC.out.below B3.2.2.2.1 (Nat.le_refl _)) HCL.out.1 HCL.out.2 (fun hb ha => ?_) (fun hb => ?_))
                  · obtain ⟨q1, q2⟩ := HGOOD.out (by unfold rcptB; rw [HSHP.out, hnb, hb, HZ2.out, ha]; rfl)
                    rw [HGV.out] at q1
                    exact ⟨q1, q2⟩
                  · exact HBAD.out (by unfold rcptB; rw [HSHP.out, hnb, HZ2.out]; rcases hb with hb | hb <;> first | contradiction | (rw [hb]; simp))
                · have g6 : ¬ ((1 : Int) < nv0) := by omega
                  have g6d : decide ((1 : Int) < nv0) = false := decide_eq_false g6
                  obtain ⟨-, ⟨k10, k11⟩, -, k22⟩ := HE.out _ (A3.out false).2.2.2.1
                  have k11 : World.cell? _ ⟨gc, oc + 3 + 1, none⟩ = _ := k11
                  have k22 : World.cell? _ ⟨gc, oc + 6 + 2, none⟩ = _ := k22
                  gi_wp2_with fail
                  refine ⟨trivial, ?_⟩
                  gi_at_call 41
                  refine (callsIn_wide.2 (HV1.out _)).mono ?_
                  rintro e w2 ⟨rfl, rfl⟩
                  by_cases he1 : ev1 = 0
                  · subst he1
                    have B2 := three_alloc w1 [.bool true, .string ⟨t.toArray⟩, .slice (some ⟨gc, oc, none⟩) 3 c] [.bool false] [.bool gd, .int .u64 nv1, .slice none 0 0] 51 4 38
                    have k23 : World.cell? _ ⟨gc, oc + 6 + 2, none⟩ = _ := (HE.out _ B2.2.2.2.1).2.2.2
                    clear B2
                    by_cases hmc : mc ≤ 20
                    · have g7 : ¬ ((20 : Int) < mc) := by omega
                      have g7d : decide ((20 : Int) < mc) = false := decide_eq_false g7
                      gi_wp2_with fail
                      refine wpIn_label ?_
                      rename_i K hK
                      have B3 := three_alloc w1 [.bool true, .string ⟨t.toArray⟩, .slice (some ⟨gc, oc, none⟩) 3 c] [.bool false] [.bool gd, .int .u64 nv1, .slice none 0 0] 51 4 38
                      have hnb : rcptNums x = !false := by rw [HNUM.out]; rw [decide_eq_true (show nv0 ≤ 1 by omega), decide_eq_true hmc]; rfl
                      refine hK _ _ (rcpt_rest s w w1.heap.size gc oc c nc qc z2.list ⟨t.toArray⟩ false gd nv1 _ _ _ _ _ _ _ _ _ _ _ _ _ _ _ _ _ _ _ _ _ _ _ _ _ _ _ _ _ _ _ _ _ _ _ _ _ _ _ _ _ _ _ _ _ _ _ _ _ _ _ _ _ _ _ _ _ _ _ _ _ _ _ _ _ _ _ _ _ _ _ _ _ _ _ _ _ _ _ _ _ _ _ _ _ _ _ _ _ _ _ _ _ _ _ _ _ _ _ _ _ _ _ _ _ _ _ _ _ (Lib.hid (HB1.out.trans (B3.2.2.2.1.mono HB1.out.size))) B3.2.2.2.2 HC1.out.lt (HC1.out.after B3.2.2.2.1) B3.1 B3.2.1 B3.2.2.1 (by rw [HMC.out]; exact (HE.out _ B3.2.2.2.1).2.2.2) (by rw [HMC.out]; exact HVC.out.below B3.2.2.2.1 (Nat.le_refl _)) HCL.out.1 HCL.out.2 (fun hb ha => ?_) (fun hb => ?_))
                      · obtain ⟨q1, q2⟩ := HGOOD.out (by unfold rcptB; rw [HSHP.out, hnb, hb, HZ2.out, ha]; rfl)
                        rw [HGV.out] at q1
                        exact ⟨q1, q2⟩
                      · exact HBAD.out (by unfold rcptB; rw [HSHP.out, hnb, HZ2.out]; rcases hb with hb | hb <;> first | contradiction | (rw [hb]; simp))
                    · have g7 : (20 : Int) < mc := by omega
                      gi_wp2_with fail
                      refine wpIn_label ?_
                      rename_i K hK
                      have B3 := three_alloc w1 [.bool true, .string ⟨t.toArray⟩, .slice (some ⟨gc, oc, none⟩) 3 c] [.bool true] [.bool gd, .int .u64 nv1, .slice none 0 0] 51 4 38
                      have hnb : rcptNums x = !true := by rw [HNUM.out]; rw [decide_eq_false hmc]; simp
                      refine hK _ _ (rcpt_rest s w w1.heap.size gc oc c nc qc z2.list ⟨t.toArray⟩ true gd nv1 _ _ _ _ _ _ _ _ _ _ _ _ _ _ _ _ _ _ _ _ _ _ _ _ _ _ _ _ _ _ _ _ _ _ _ _ _ _ _ _ _ _ _ _ _ _ _ _ _ _ _ _ _ _ _ _ _ _ _ _ _ _ _ _ _ _ _ _ _ _ _ _ _ _ _ _ _ _ _ _ _ _ _ _ _ _ _ _ _ _ _ _ _ _ _ _ _ _ _ _ _ _ _ _ _ _ _ _ _ (Lib.hid (HB1.out.trans (B3.2.2.2.1.mono HB1.out.size))) B3.2.2.2.2 HC1.out.lt (HC1.out.after B3.2.2.2.1) B3.1 B3.2.1 B3.2.2.1 (by rw [HMC.out]; exact (HE.out _ B3.2.2.2.1).2.2.2) (by rw [HMC.out]; exact HVC.out.below B3.2.2.2.1 (Nat.le_refl _)) HCL.out.1 HCL.out.2 (fun hb ha => ?_) (fun hb => ?_))
                      · obtain ⟨q1, q2⟩ := HGOOD.out (by unfold rcptB; rw [HSHP.out, hnb, hb, HZ2.out, ha]; rfl)
                        rw [HGV.out] at q1
                        exact ⟨q1, q2⟩
                      · exact HBAD.out (by unfold rcptB; rw [HSHP.out, hnb, HZ2.out]; rcases hb with hb | hb <;> first | contradiction | (rw [hb]; simp))
                  · gi_wp2_with fail
                    refine wpIn_label ?_
                    rename_i K hK
                    have B3 := three_alloc w1 [.bool true, .string ⟨t.toArray⟩, .slice (some ⟨gc, oc, none⟩) 3 c] [.bool true] [.bool gd, .int .u64 nv1, .slice none 0 0] 51 4 38
                    have hnb : rcptNums x = !true := by rw [HNUM.out]; rw [decide_eq_false he1]; simp
                    refine hK _ _ (rcpt_rest s w w1.heap.size gc oc c nc qc z2.list ⟨t.toArray⟩ true gd nv1 _ _ _ _ _ _ _ _ _ _ _ _ _ _ _ _ _ _ _ _ _ _ _ _ _ _ _ _ _ _ _ _ _ _ _ _ _ _ _ _ _ _ _ _ _ _ _ _ _ _ _ _ _ _ _ _ _ _ _ _ _ _ _ _ _ _ _ _ _ _ _ _ _ _ _ _ _ _ _ _ _ _ _ _ _ _ _ _ _ _ _ _ _ _ _ _ _ _ _ _ _ _ _ _ _ _ _ _ _ (Lib.hid (HB1.out.trans (B3.2.2.2.1.mono HB1.out.size))) B3.2.2.2.2 HC1.out.lt (HC1.out.after B3.2.2.2.1) B3.1 B3.2.1 B3.2.2.1 (by rw [HMC.out]; exact (HE.out _ B3.2.2.2.1).2.2.2) (by rw [HMC.out]; exact HVC.out.below B3.2.2.2.1 (Nat.le_refl _)) HCL.out.1 HCL.out.2 (fun hb ha => ?_) (fun hb => ?_))
                    · obtain ⟨q1, q2⟩ := HGOOD.out (by unfold rcptB; rw [HSHP.out, hnb, hb, HZ2.out, ha]; rfl)
                      rw [HGV.out] at q1
                      exact ⟨q1, q2⟩
                    · exact HBAD.out (by unfold rcptB; rw [HSHP.out, hnb, HZ2.out]; rcases hb with hb | hb <;> first | contradiction | (rw [hb]; simp))
              · obtain ⟨-, ⟨k10, k11⟩, -, k22⟩ := HE.out _ (A3.out true).2.2.2.1
                have k11 : World.cell? _ ⟨gc, oc + 3 + 1, none⟩ = _ := k11
                have k22 : World.cell? _ ⟨gc, oc + 6 + 2, none⟩ = _ := k22
                gi_wp2_with fail
                refine ⟨trivial, ?_⟩
                gi_at_call 41
                refine (callsIn_wide.2 (HV1.out _)).mono ?_
                rintro e w2 ⟨rfl, rfl⟩
                gi_wp2_with fail
                refine wpIn_label ?_
                rename_i K hK
                have B3 := three_alloc w1 [.bool true, .string ⟨t.toArray⟩, .slice (some ⟨gc, oc, none⟩) 3 c] [.bool true] [.bool gd, .int .u64 nv1, .slice none 0 0] 51 4 38
                have hnb : rcptNums x = !true := by rw [HNUM.out]; rw [decide_eq_false he0]; simp
                refine hK _ _ (rcpt_rest s w w1.heap.size gc oc c nc qc z2.list ⟨t.toArray⟩ true gd nv1 _ _ _ _ _ _ _ _ _ _ _ _ _ _ _ _ _ _ _ _ _ _ _ _ _ _ _ _ _ _ _ _ _ _ _ _ _ _ _ _ _ _ _ _ _ _ _ _ _ _ _ _ _ _ _ _ _ _ _ _ _ _ _ _ _ _ _ _ _ _ _ _ _ _ _ _ _ _ _ _ _ _ _ _ _ _ _ _ _ _ _ _ _ _ _ _ _ _ _ _ _ _ _ _ _ _ _ _ _ (Lib.hid (HB1.out.trans (B3.2.2.2.1.mono HB1.out.size))) B3.2.2.2.2 HC1.out.lt (HC1.out.after B3.2.2.2.1) B3.1 B3.2.1 B3.2.2.1 (by rw [HMC.out]; exact (HE.out _ B3.2.2.2.1).2.2.2) (by rw [HMC.out]; exact HVC.out.below B3.2.2.2.1 (Nat.le_refl _)) HCL.out.1 HCL.out.2 (fun hb ha => ?_) (fun hb => ?_))
                · obtain ⟨q1, q2⟩ := HGOOD.out (by unfold rcptB; rw [HSHP.out, hnb, hb, HZ2.out, ha]; rfl)
                  rw [HGV.out] at q1
                  exact ⟨q1, q2⟩
                · exact HBAD.out (by unfold rcptB; rw [HSHP.out, hnb, HZ2.out]; rcases hb with hb | hb <;> first | contradiction | (rw [hb]; simp))
      · have g5 : ¬ ((m : Int) = 3) := by omega
        have H3M := Lib.hid h3m
        clear h3m hlo
        gi_wp2
        have hf : HasCells _ w.heap.size rcptZ 38 := ((HC2.out.set 0 (.bool false)).set 1 (.int .u64 0)).set 2 (.slice none 0 0)
        refine ⟨_, results_cells2 rfl _ _ w.heap.size rcptZ _ (by rfl) hf.range Tryd.underlying38 rfl infoRcpt, ?_⟩
        obtain ⟨e1, e2⟩ := HBAD.out (by unfold rcptB rcptShape; rw [HM.out, decide_eq_false H3M.out]; simp)
        exact ⟨false, 0, [], .slice none 0 0, by rw [e2]; rfl, e1, Logs.nil _, ⟨_, _, _, rfl⟩, three_below HB2.out _ _ _⟩
end Go.Proofs.YtmjblnhnadffmaaDoor
