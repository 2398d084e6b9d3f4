/- What the walks take: EvmF. -/
import Derived.Test.YtlelgbmbmajfmaaGreatDoorS4
import Derived.Test.YtlelgbmbmajfmaaGreatDoorS7
import Derived.Test.YtlelgbmbmajfmaaGreatDoorS11
import Derived.Laws.AppendOwn
namespace Go.Proofs.YtlelgbmbmajfmaaGreatDoor
open Go.RowKit Go.Shelf Go.Lib
attribute [local go_sem] Oper.semAt_some
/-- a frame's fields; stk, stkL: the stack as a value, and its words -/
structure FrE where
  s : Value
  origin : ByteArray
  number : Nat
  src : ByteArray
  dst : ByteArray
  who : ByteArray
  value : Nat
  data : List UInt8
  mgas : Nat
  still : Bool
  depth : Nat
  stays : Bool
  code : List UInt8
  tos : Value
  stk : Value
  stkL : List Nat
  mem : List UInt8
  back : List UInt8
  gas : Nat
  pc : Nat
  next : Nat
  how : Nat
  out : List UInt8
  ended : Bool
def cellsF (f : FrE) : List Value := [f.s, .string f.origin, .int .u64 f.number, .string f.src, .string f.dst, .string f.who, .int .u64 (limb f.value 0), .int .u64 (limb f.value 1), .int .u64 (limb f.value 2), .int .u64 (limb f.value 3), .string ⟨f.data.toArray⟩, .int .u64 f.mgas, .bool f.still, .int .i64 f.depth, .bool f.stays,
  .string ⟨f.code.toArray⟩, f.tos, f.stk, .string ⟨f.mem.toArray⟩, .string ⟨f.back.toArray⟩, .int .u64 f.gas, .int .i64 f.pc, .int .i64 f.next, .int .i64 f.how, .string ⟨f.out.toArray⟩, .bool f.ended]
def wordCells (l : List Nat) : List Value := l.flatMap fun v => [.int .u64 (limb v 0), .int .u64 (limb v 1), .int .u64 (limb v 2), .int .u64 (limb v 3)]
theorem wordCells_length (l : List Nat) : (wordCells l).length = l.length * 4 := by
  induction l with
  | nil => rfl
  | cons a r ih =>
    simp only [wordCells, List.flatMap_cons, List.length_append, List.length_cons, List.length_nil] at *
    omega
theorem wordCells_append (a b : List Nat) : wordCells (a ++ b) = wordCells a ++ wordCells b := List.flatMap_append
theorem wordCells_at (l : List Nat) (i j : Nat) (v : Nat) (h : l[i]? = some v) (hj : j < 4) : (wordCells l)[i * 4 + j]? = some (.int .u64 (limb v j)) := by
  induction l generalizing i with
  | nil => cases h
  | cons a r ih =>
    cases i with
    | zero =>
      cases h
      simp only [wordCells, List.flatMap_cons]
      rw [List.getElem?_append_left (by simp; omega)]
      match j, hj with
      | 0, _ => rfl
      | 1, _ => rfl
      | 2, _ => rfl
      | 3, _ => rfl
    | succ i =>
      have h' : r[i]? = some v := h
      have := ih i h'
      simp only [wordCells, List.flatMap_cons] at *
      rw [List.getElem?_append_right (by simp; omega)]
      rw [show (i + 1) * 4 + j - [Value.int .u64 (limb a 0), .int .u64 (limb a 1), .int .u64 (limb a 2), .int .u64 (limb a 3)].length = i * 4 + j from by simp; omega]
      exact this
/-- a row of words that the call owns -/
def OwnW (base : Nat) (w : World) (v : Value) (l : List Nat) : Prop := w.ownsRow base 24 4 v l.length (wordCells l)
theorem OwnW.nil (base : Nat) (w : World) : OwnW base w (.slice none 0 0) [] := World.ownsRow_nil _ _ _ _
theorem OwnW.lt {base : Nat} {w : World} {v : Value} {l : List Nat} (h : OwnW base w v l) : ∀ k, v.ownBlock = some k → base ≤ k ∧ k < w.heap.size := World.ownsRow.lt h
theorem OwnW.form {base : Nat} {w : World} {v : Value} {l : List Nat} (h : OwnW base w v l) : ∃ p c, v = .slice p l.length c := by
  obtain ⟨_, ⟨rfl, h0⟩ | ⟨g, cap, cur, rfl, _⟩⟩ := h
  · exact ⟨none, 0, by rw [h0]⟩
  · exact ⟨_, _, rfl⟩
theorem OwnW.of_block {base : Nat} {w w' : World} {v : Value} {l : List Nat} (h : OwnW base w v l) (hb : ∀ k, v.ownBlock = some k → w'.heap[k]? = w.heap[k]?) : OwnW base w' v l := by
  obtain ⟨h1, h2⟩ := h
  refine ⟨h1, ?_⟩
  rcases h2 with h2 | ⟨g, cap, cur, hv, hg, hh, r⟩
  · exact .inl h2
  · exact .inr ⟨g, cap, cur, hv, hg, by rw [hb g (by rw [hv]; rfl)]; exact hh, r⟩
theorem OwnW.after {base : Nat} {w w' : World} {v : Value} {l : List Nat} (h : OwnW base w v l) (hb : Below w.heap.size w w') : OwnW base w' v l := h.of_block fun k e => hb.block k (h.lt k e).2
/-- the last words are cut off -/
theorem OwnW.cut {base : Nat} {w : World} {g : Nat} {n c : Nat} {l : List Nat} (h : OwnW base w (.slice (some ⟨g, 0, none⟩) n c) l) (m : Nat) (hm : m ≤ l.length) : OwnW base w (.slice (some ⟨g, 0, none⟩) m c) (l.take m) := by
  obtain ⟨h1, ⟨h2, _⟩ | ⟨g', cap, cur, hv, hg, hh, h4, h5, h6, h7⟩⟩ := h
  · cases h2
  · cases hv
    have hlen : (l.take m).length = m := by rw [List.length_take]; omega
    unfold OwnW
    rw [hlen]
    refine ⟨by rw [wordCells_length, hlen], .inr ⟨g, c, cur, rfl, hg, hh, by omega, h5, h6, ?_⟩⟩
    have e : wordCells l = wordCells (l.take m) ++ wordCells (l.drop m) := by rw [← wordCells_append, List.take_append_drop]
    rw [e] at h7
    have e2 : cur.toList.take (m * 4) = (cur.toList.take (l.length * 4)).take (m * 4) := by rw [List.take_take, Nat.min_eq_left (by omega)]
    rw [e2, h7, List.take_left' (by rw [wordCells_length, hlen])]
theorem infoWordC : (Tryz.prog.info? 24).map (fun i => (i.zero, i.size, i.bytes)) = some (some (.agg #[.int .u64 0, .int .u64 0, .int .u64 0, .int .u64 0]), 4, 32) := by kernel_rfl
theorem run_appendW {base : Nat} {w : World} {v : Value} {l : List Nat} (hown : OwnW base w v l) (ad : Addr) (c : Nat) (q : Nat)
    (hnews : ∀ j u, (wordCells [q])[j]? = some u → w.cell? (ad.add j) = some u) (h63 : l.length ≤ 1099511627776) (hbase : base ≤ w.heap.size) (ty : TypeId) :
    ∃ v' w', (Builtin.append_ #[148, 148] ty #[v, .slice (some ad) 1 c]).run Tryz.prog w = .ok v' w' ∧ OwnW base w' v' (l ++ [q]) ∧ w.grownBy w' v.ownBlock ∧ (v'.ownBlock = v.ownBlock ∨ v'.ownBlock = some w.heap.size) := by
  obtain ⟨i0, hi0, hz0, hz1, hz2⟩ := info_parts infoWordC
  obtain ⟨v', w', hr, h1, h2, _, h3⟩ := run_append_own_at (P := Tryz.prog) w base 148 ty 24 i0 _ 4 32 Tryz.underlying148 hi0 hz0 hz1 hz2 rfl (by omega) v l.length (wordCells l) hown ad 1 c (wordCells [q]) (by rw [wordCells_length]; simp) hnews
    (fun u hu => by simp only [wordCells, List.flatMap_cons, List.flatMap_nil, List.append_nil, List.mem_cons, List.not_mem_nil, or_false] at hu; rcases hu with rfl | rfl | rfl | rfl <;> rfl) (by unfold maxLen; omega) (by omega) hbase
  refine ⟨v', w', hr, ?_, h2, h3⟩
  unfold OwnW
  rw [wordCells_append, List.length_append]
  exact h1
/-- a frame lies in a block, its stack behind it -/
def Fra (p : Nat) (w : World) (f : FrE) : Prop := HasCells w p (cellsF f) 150 ∧ OwnW (p + 1) w f.stk f.stkL
theorem Fra.lt {p : Nat} {w : World} {f : FrE} (h : Fra p w f) : p < w.heap.size := HasCells.lt h.1
theorem Fra.after {p : Nat} {w w' : World} {f : FrE} (h : Fra p w f) (hb : Below w.heap.size w w') : Fra p w' f := ⟨h.1.after hb, h.2.after hb⟩
theorem Fra.mono {p : Nat} {w w' w'' : World} {f : FrE} (h : Fra p w f) (h1 : Below p w'' w) (hb : Below w.heap.size w w') : Below p w'' w' := h1.trans (hb.mono (Nat.le_of_lt h.lt))
theorem cellSet {B p : Nat} {w0 w : World} (h : Below B w0 w) (hp : B ≤ p) (j : Nat) (v : Value) : Below B w0 (w.setCell ⟨p, j, none⟩ v) := Below.setCell h (p := (⟨p, j, none⟩ : Addr)) hp v
/-- a field is stored -/
theorem Fra.set {p : Nat} {w : World} {f g : FrE} (h : Fra p w f) (j : Nat) (v : Value) (hc : (cellsF f).set j v = cellsF g) (hs : g.stk = f.stk) (hl : g.stkL = f.stkL) : Fra p (w.setCell ⟨p, j, none⟩ v) g := by
  refine ⟨hc ▸ h.1.set j v, ?_⟩
  rw [hs, hl]
  exact h.2.of_block fun k e => Below.heap_setCell w ⟨p, j, none⟩ v k (fun e2 => by have := (h.2.lt k e).1; simp at e2; omega)
theorem Fra.at {p : Nat} {w : World} {f : FrE} (h : Fra p w f) (j : Nat) {v : Value} (hj : (cellsF f)[j]? = some v) : w.cell? ⟨p, j, none⟩ = some v := h.1.cell hj
theorem Fra.ice {p : Nat} {w : World} {f : FrE} (h : Fra p w f) (j : Nat) : w.frozen? ⟨p, j, none⟩ = false := h.1.frozen j
/-- what a step of the frame may change: its block, its stack's own block, what is new -/
structure Upf (p : Nat) (w : World) (f : FrE) (w' : World) (f' : FrE) : Prop where
  below : Below p w w'
  block : ∀ k, k < w.heap.size → k ≠ p → f.stk.ownBlock ≠ some k → w'.heap[k]? = w.heap[k]?
  own : ∀ k, f'.stk.ownBlock = some k → f.stk.ownBlock = some k ∨ w.heap.size ≤ k
theorem Upf.refl (p : Nat) (w : World) (f : FrE) : Upf p w f w f := ⟨Below.refl _ _, fun _ _ _ _ => rfl, fun _ h => .inl h⟩
theorem Upf.trans {p : Nat} {w w1 w2 : World} {f f1 f2 : FrE} (h : Upf p w f w1 f1) (k : Upf p w1 f1 w2 f2) : Upf p w f w2 f2 :=
  ⟨h.below.trans k.below, fun b hb hp hf => (k.block b (Nat.lt_of_lt_of_le hb h.below.size) hp (fun e => by
    rcases h.own b e with e2 | e2
    · exact hf e2
    · omega)).trans (h.block b hb hp hf), fun b e => by
    rcases k.own b e with e2 | e2
    · exact h.own b e2
    · exact .inr (Nat.le_trans h.below.size e2)⟩
theorem Upf.set {p : Nat} {w w1 : World} {f f1 g : FrE} (h : Upf p w f w1 f1) (j : Nat) (v : Value) (hs : g.stk = f1.stk) : Upf p w f (w1.setCell ⟨p, j, none⟩ v) g :=
  ⟨cellSet h.below (Nat.le_refl _) j v, fun b hb hp hf => (Below.heap_setCell w1 ⟨p, j, none⟩ v b hp).trans (h.block b hb hp hf), fun b e => h.own b (by rw [← hs]; exact e)⟩
theorem Upf.next {p : Nat} {w w1 w2 : World} {f f1 : FrE} (h : Upf p w f w1 f1) (hp : p ≤ w.heap.size) (hb : Below w.heap.size w1 w2) : Upf p w f w2 f1 :=
  ⟨h.below.trans (hb.mono hp), fun b hlt hne hf => (hb.block b hlt).trans (h.block b hlt hne hf), h.own⟩
theorem Upf.same {p : Nat} {w w1 : World} {f f1 g : FrE} (h : Upf p w f w1 f1) (hs : g.stk = f1.stk) : Upf p w f w1 g := ⟨h.below, h.block, fun b e => h.own b (by rw [← hs]; exact e)⟩
/-- another block of the caller's stays -/
theorem Upf.kept {p : Nat} {w w1 : World} {f f1 : FrE} (h : Upf p w f w1 f1) (_ : Fra p w f) {q : Nat} (hq : q < w.heap.size) (hp : q ≠ p) (hs : f.stk.ownBlock ≠ some q) : w1.heap[q]? = w.heap[q]? := h.block q hq hp hs
def endE (f : FrE) (how : Nat) (out : List UInt8) : FrE := { f with ended := true, how := how, out := out }
theorem end_any (p : Nat) (f : FrE) (how : Nat) (out : List UInt8) (w : World) (h : Fra p w f) : Calls Tryz.prog 121 #[.pointer (some ⟨p, 0, none⟩), .int .i64 how, .string ⟨out.toArray⟩] w fun e w' => e = .returned (.bool false) ∧ Upf p w f w' (endE f how out) ∧ Fra p w' (endE f how out) := by
  have c1 := h.at 25 rfl
  have c2 := h.at 23 rfl
  have c3 := h.at 24 rfl
  have i1 := h.ice 25
  have i2 := h.ice 23
  have i3 := h.ice 24
  have H := Lib.hid h
  clear h
  go_enter Tryz.func121, Tryz.ntmps121
  go_wp2_with fail
  go_ret
  exact ⟨rfl, (((Upf.refl p w f).set (g := f) 25 _ rfl).set (g := f) 23 _ rfl).set 24 _ rfl,
    ((H.out.set (g := { f with ended := true }) 25 _ rfl rfl rfl).set (g := { f with ended := true, how := how }) 23 _ rfl rfl rfl).set 24 _ rfl rfl rfl⟩
def failE (f : FrE) : FrE := endE f 2 []
theorem fail_any (p : Nat) (f : FrE) (w : World) (h : Fra p w f) : Calls Tryz.prog 97 #[.pointer (some ⟨p, 0, none⟩)] w fun e w' => e = .returned (.bool false) ∧ Upf p w f w' (failE f) ∧ Fra p w' (failE f) := by
  have H := Lib.hid (end_any p f 2 [] w h)
  clear h
  go_enter Tryz.func97, Tryz.ntmps97
  go_wp2_with fail
  refine H.out.mono ?_
  rintro e w1 ⟨rfl, hb, hf⟩
  have HB := Lib.hid hb
  have HF := Lib.hid hf
  clear hb hf
  go_wp2_with fail
  go_ret
  exact ⟨rfl, HB.out, HF.out⟩
def payE (f : FrE) (n : Nat) : FrE := { f with gas := f.gas - n }
theorem pay_some (p : Nat) (f : FrE) (n : Nat) (w : World) (h : Fra p w f) (hg : f.gas < 18446744073709551616) (hn : n ≤ f.gas) : Calls Tryz.prog 96 #[.pointer (some ⟨p, 0, none⟩), .int .u64 n] w fun e w' => e = .returned (.bool true) ∧ Upf p w f w' (payE f n) ∧ Fra p w' (payE f n) := by
  have c1 := h.at 20 rfl
  have i1 := h.ice 20
  have H := Lib.hid h
  obtain ⟨G, hG⟩ : ∃ G, f.gas = G := ⟨_, rfl⟩
  rw [hG] at hg hn c1
  have g1 : ¬ (G : Int) < n := by omega
  have g2 : IntKind.u64.wrap ((G : Int) - n) = (G : Int) - n := by rw [IntKind.wrap_u64]; omega
  have g3 : (G : Int) - n = ((G - n : Nat) : Int) := by omega
  have HG := Lib.hid hG
  clear h hG
  go_enter Tryz.func96, Tryz.ntmps96
  go_wp2_with fail
  go_ret
  refine ⟨rfl, (Upf.refl p w f).set 20 _ rfl, H.out.set 20 _ ?_ rfl rfl⟩
  unfold payE
  rw [HG.out]
  rfl
theorem pay_none (p : Nat) (f : FrE) (n : Nat) (w : World) (h : Fra p w f) (hn : f.gas < n) : Calls Tryz.prog 96 #[.pointer (some ⟨p, 0, none⟩), .int .u64 n] w fun e w' => e = .returned (.bool false) ∧ Upf p w f w' (failE f) ∧ Fra p w' (failE f) := by
  have c1 := h.at 20 rfl
  have H := Lib.hid (fail_any p f w h)
  obtain ⟨G, hG⟩ : ∃ G, f.gas = G := ⟨_, rfl⟩
  rw [hG] at hn c1
  have g1 : (G : Int) < n := by omega
  clear h hG
  go_enter Tryz.func96, Tryz.ntmps96
  go_wp2_with fail
  refine H.out.mono ?_
  rintro e w1 ⟨rfl, hb, hf⟩
  have HB := Lib.hid hb
  have HF := Lib.hid hf
  clear hb hf
  go_wp2_with fail
  go_ret
  exact ⟨rfl, HB.out, HF.out⟩
/-- a word is pushed -/
def pushF (f : FrE) (v : Value) (x : Nat) : FrE := { f with stk := v, stkL := f.stkL ++ [x] }
end Go.Proofs.YtlelgbmbmajfmaaGreatDoor
