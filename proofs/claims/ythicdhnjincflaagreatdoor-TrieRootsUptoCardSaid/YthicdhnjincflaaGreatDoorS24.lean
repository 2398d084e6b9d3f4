/- What the walks take: PrfB, PrfF, PrfJ. -/
import Derived.Test.YthicdhnjincflaaGreatDoorS4
import Derived.Test.YthicdhnjincflaaGreatDoorS10
import Derived.Test.YthicdhnjincflaaGreatDoorS12
import Derived.Test.YthicdhnjincflaaGreatDoorS13
import Derived.Test.YthicdhnjincflaaGreatDoorS18
import Derived.Test.YthicdhnjincflaaGreatDoorS21
import Derived.Test.YthicdhnjincflaaGreatDoorS22
import Derived.Test.YthicdhnjincflaaGreatDoorS23
import Derived.OrdersIn
import Derived.OwnWalkIn
import Derived.TacticsInMore
import Derived.LoopNIn
import Derived.LoopIn
import Derived.Test.YthicdhnjincflaaGreatDoorShelfR
namespace Go.Proofs.YthicdhnjincflaaGreatDoor
open Go.RowKit Go.Shelf Go.Lib
attribute [local go_sem] Oper.semAt_some
/-- what the iterator tells: an item, the value of its list -/
abbrev ElR := Item × Value
/-- blocks below a bound read as before -/
def KeepB (B1 : Nat) (W W' : World) : Prop := W.heap.size ≤ W'.heap.size ∧ ∀ g, g < B1 → W'.heap[g]? = W.heap[g]?
theorem KeepB.trans {B1 : Nat} {A B C : World} (h : KeepB B1 A B) (k : KeepB B1 B C) : KeepB B1 A C := ⟨Nat.le_trans h.1 k.1, fun g hg => (k.2 g hg).trans (h.2 g hg)⟩
theorem KeepB.below {B1 : Nat} {A B : World} (h : Below A.heap.size A B) (h1 : B1 ≤ A.heap.size) : KeepB B1 A B := ⟨h.size, fun g hg => h.block g (by omega)⟩
theorem KeepB.refl (B1 : Nat) (W : World) : KeepB B1 W W := ⟨Nat.le_refl _, fun _ _ => rfl⟩
def RelR (l : List Item) (pre : List ElR) : Prop := ∀ q ∈ pre, q.1 ∈ l ∧ emptyI q.1 = false
theorem RelR.snoc {l : List Item} {pre : List ElR} {x : ElR} (h : RelR l pre) (h1 : x.1 ∈ l) (h2 : emptyI x.1 = false) : RelR l (pre ++ [x]) := fun q hq => by
  rcases List.mem_append.1 hq with hq | hq
  · exact h q hq
  · rw [List.mem_singleton] at hq
    rw [hq]
    exact ⟨h1, h2⟩
end Go.Proofs.YthicdhnjincflaaGreatDoor
/- Contracts of proof.isRef and proof.isNode. -/
namespace Go.Proofs.YthicdhnjincflaaGreatDoor
open Go.RowKit Go.Shelf Go.Lib
attribute [local go_sem] Oper.semAt_some
/-- an item that can be written as bytes -/
def Small (x : Item) : Prop := wrong x = false ∧ (put x).length ≤ 65536
theorem Small.size {x : Item} (h : Small x) : x.size ≤ 65536 := Nat.le_trans ((size_put x.size).1 x (Nat.le_refl _) h.1) h.2
theorem Small.child {x y : Item} (h : Small x) (hy : y ∈ x.list) : Small y ∧ y.size < x.size := by
  have hsz : y.size < x.size := by
    obtain ⟨i, hi⟩ := List.getElem?_of_mem hy
    exact size_child hi
  refine ⟨?_, hsz⟩
  cases x with
  | mk b t l =>
    cases b with
    | false =>
      have h1 : wrong (.mk false t l) = false := h.1
      rw [wrong_eq] at h1
      have h2 : (!l.isEmpty) = false := h1
      have : l = [] := by simpa using h2
      subst this
      cases hy
    | true =>
      have h1 : wrong (.mk true t l) = false := h.1
      rw [wrong_eq] at h1
      have h2 : (!t.isEmpty || l.any wrong) = false := h1
      have h3 := List.any_eq_false.1 (Bool.or_eq_false_iff.1 h2).2 y hy
      have h4 := tp_mem (show y ∈ l from hy)
      have h5 : (putAll l).length + 1 ≤ (put (.mk true t l)).length := (tp_framed (putAll l) 192).1
      have h6 := h.2
      have h7 : l.length ≠ 0 := fun e => by rw [List.length_eq_zero_iff.1 e] at hy; cases hy
      exact ⟨by simpa using h3, by omega⟩
theorem Small.text {x : Item} (h : Small x) : x.text.length ≤ 65536 := by
  cases x with
  | mk b t l =>
    cases b with
    | false => exact Nat.le_trans (putText_ge t) h.2
    | true =>
      have h1 : wrong (.mk true t l) = false := h.1
      rw [wrong_eq] at h1
      have h2 : (!t.isEmpty || l.any wrong) = false := h1
      have h3 := (Bool.or_eq_false_iff.1 h2).1
      have : t = [] := by simpa using h3
      subst this
      simp [Item.text]
theorem keepsFrom_below {B : Nat} {W W' : World} (h : Below W.heap.size W W') : KeepsFrom B W W' := ⟨h.size, fun k _ _ hk _ => (h.block k (Array.getElem?_eq_some_iff.1 hk).1).trans hk⟩
end Go.Proofs.YthicdhnjincflaaGreatDoor

namespace Go.Proofs.YthicdhnjincflaaGreatDoor
open Go.RowKit Go.Shelf Go.Lib
attribute [local go_sem] Oper.semAt_some
theorem KecT.belowP {w W : World} (h : KecT w) (hb : Below w.heap.size w W) : KecT W := by
  have key : ∀ g i v, w.cell? ⟨g, i, none⟩ = some v → W.cell? ⟨g, i, none⟩ = some v := fun g i v hc =>
    (World.cell?_of_block (hb.block g (World.block_lt_of_cell? w _ hc))).trans hc
  exact ⟨fun t ht => key _ _ _ (h.places t ht), fun t ht => key _ _ _ (h.turns t ht), fun t ht => key _ _ _ (h.consts t ht)⟩
/-- texts that lie below a bound -/
def StrsB (B : Nat) (w : World) (v : Value) (xs : List ByteArray) : Prop :=
  ∃ p c, v = .slice p xs.length c ∧ xs.length ≤ c ∧ (xs = [] ∨ ∃ bk o, p = some ⟨bk, o, none⟩ ∧ bk < B ∧ ∀ (j : Nat) x, xs[j]? = some x → w.cell? ⟨bk, o + j, none⟩ = some (.string x))
theorem StrsB.below {B : Nat} {w w' : World} {v : Value} {xs : List ByteArray} (h : StrsB B w v xs) (hb : Below B w w') : StrsB B w' v xs := by
  obtain ⟨p, c, hv, hc, h⟩ := h
  refine ⟨p, c, hv, hc, ?_⟩
  rcases h with h | ⟨bk, o, hp, hk, h⟩
  · exact .inl h
  · exact .inr ⟨bk, o, hp, hk, fun j x hx => (hb.cell (p := ⟨bk, o + j, none⟩) hk).trans (h j x hx)⟩
theorem StrsB.at {B : Nat} {w : World} {p : Option Addr} {n c : Nat} {x : ByteArray} {xs : List ByteArray} (h : StrsB B w (.slice p n c) (x :: xs)) :
    ∃ bk o, p = some ⟨bk, o, none⟩ ∧ bk < B ∧ n = xs.length + 1 ∧ xs.length + 1 ≤ c ∧ w.cell? ⟨bk, o, none⟩ = some (.string x) ∧ ∀ (j : Nat) y, xs[j]? = some y → w.cell? ⟨bk, o + 1 + j, none⟩ = some (.string y) := by
  obtain ⟨p', c', hv, hc, h⟩ := h
  cases hv
  rcases h with h | ⟨bk, o, hp, hk, h⟩
  · cases h
  · refine ⟨bk, o, hp, hk, rfl, hc, h 0 x rfl, fun j y hy => ?_⟩
    have := h (j + 1) y hy
    rwa [show o + (j + 1) = o + 1 + j by omega] at this
/-- what a walk does to the world: all below a bound stays, and all blocks that were there but the walk's own -/
def Upd (B wb : Nat) (w w' : World) : Prop := Below B w w' ∧ w.heap.size ≤ w'.heap.size ∧ ∀ g, g < w.heap.size → g ≠ wb → w'.heap[g]? = w.heap[g]?
theorem Upd.of_below {B wb : Nat} {w w' : World} (h : Below w.heap.size w w') (hB : B ≤ w.heap.size) : Upd B wb w w' := ⟨h.mono hB, h.size, fun g hg _ => h.block g hg⟩
theorem Upd.trans {B wb : Nat} {w w' w'' : World} (h : Upd B wb w w') (k : Upd B wb w' w'') : Upd B wb w w'' := ⟨h.1.trans k.1, Nat.le_trans h.2.1 k.2.1, fun g hg hne => (k.2.2 g (Nat.lt_of_lt_of_le hg h.2.1) hne).trans (h.2.2 g hg hne)⟩
theorem Upd.set {B wb : Nat} (w : World) (hB : B ≤ wb) (j : Nat) (v : Value) : Upd B wb w (w.setCell ⟨wb, j, none⟩ v) := ⟨(Below.refl _ _).setCell (p := ⟨wb, j, none⟩) hB v, by simp, fun g _ hne => Below.heap_setCell _ _ _ _ hne⟩
/-- an item that lies below the heap's end and not in one block -/
def RZ (z : Nat) (w : World) (v : Value) (xs : List Item) : Prop := ReadsIn w (fun g => g < w.heap.size ∧ g ≠ z) v xs
theorem RZ.reads {z : Nat} {w : World} {v : Value} {xs : List Item} (h : RZ z w v xs) : Reads w w.heap.size v xs := ReadsIn.mono h (fun _ hg => hg.1)
theorem RZ.below {z : Nat} {w w' : World} {v : Value} {xs : List Item} (h : RZ z w v xs) (hb : Below w.heap.size w w') : RZ z w' v xs :=
  ReadsIn.kept h (fun g _ o hg hc => (hb.cell (p := ⟨g, o, none⟩) hg.1).trans hc) (fun _ hg => ⟨Nat.lt_of_lt_of_le hg.1 hb.size, hg.2⟩)
end Go.Proofs.YthicdhnjincflaaGreatDoor
/- Contract of the walk's node at a reference that is a text. -/
namespace Go.Proofs.YthicdhnjincflaaGreatDoor
open Go.RowKit Go.Shelf Go.Lib
attribute [local go_sem] Oper.semAt_some
theorem kecOne_l {l k : List UInt8} (hk : keccakL l = k) (bk ob : Nat) (W : World) (hc : W.cell? ⟨bk, ob, none⟩ = some (.string ⟨l.toArray⟩)) (hlen : l.length ≤ 1099511627776) (hK : KecT W) : Calls Tryz.prog 19 #[.slice (some ⟨bk, ob, none⟩) 1 1] W fun e w' => e = .returned (.string ⟨k.toArray⟩) ∧ Below W.heap.size W w' := by
  subst hk
  have hl : lettersOf [(⟨l.toArray⟩ : ByteArray)] = l := by simp [lettersOf]
  have h := kecSum_any (.slice (some ⟨bk, ob, none⟩) 1 1) [⟨l.toArray⟩] W ⟨_, _, rfl, Nat.le_refl 1, .inr ⟨bk, ob, rfl, World.block_lt_of_cell? W _ hc, fun j x hx => by
    match j, hx with
    | 0, hx => cases hx; exact hc⟩⟩ (by simp) (by rw [hl]; exact hlen) hK
  rw [hl] at h
  exact h
end Go.Proofs.YthicdhnjincflaaGreatDoor
/- Contract of the walk's step. -/
namespace Go.Proofs.YthicdhnjincflaaGreatDoor
open Go.RowKit Go.Shelf Go.Lib
attribute [local go_sem] Oper.semAt_some
/-- three stores in a block above -/
theorem three_at {B g : Nat} {w w' : World} (h : Below B w w') (hg : B ≤ g) (v0 v1 v2 : Value) : Below B w (((w'.setCell ⟨g, 0, none⟩ v0).setCell ⟨g, 1, none⟩ v1).setCell ⟨g, 2, none⟩ v2) :=
  ((h.setCell (p := ⟨g, 0, none⟩) hg v0).setCell (p := ⟨g, 1, none⟩) hg v1).setCell (p := ⟨g, 2, none⟩) hg v2
theorem HasCells.threeOther {W : World} {q g : Nat} {cs : List Value} {t : TypeId} (h : HasCells W q cs t) (hne : q ≠ g) (v0 v1 v2 : Value) : HasCells (((W.setCell ⟨g, 0, none⟩ v0).setCell ⟨g, 1, none⟩ v1).setCell ⟨g, 2, none⟩ v2) q cs t :=
  ((h.setOther hne v0).setOther hne v1).setOther hne v2
end Go.Proofs.YthicdhnjincflaaGreatDoor
/- Contract of the walk's step at a list of two. -/
namespace Go.Proofs.YthicdhnjincflaaGreatDoor
open Go.RowKit Go.Shelf Go.Lib
attribute [local go_sem] Oper.semAt_some
theorem cut_l {path rp tp : List UInt8} {hp : Bool} (h1 : Lib.trimPrefix path rp = tp) (h2 : Lib.hasPrefix path rp = hp) (w : World) :
    Calls Tryz.prog 24 #[.string ⟨path.toArray⟩, .string ⟨rp.toArray⟩] w fun e w' => e = .returned (.tuple #[.string ⟨tp.toArray⟩, .bool hp]) ∧ w' = w := by
  subst h1 h2
  exact Tryz.strings_CutPrefix ⟨path.toArray⟩ ⟨rp.toArray⟩ w
end Go.Proofs.YthicdhnjincflaaGreatDoor

namespace Go.Proofs.YthicdhnjincflaaGreatDoor
open Go.RowKit Go.Shelf Go.Lib
attribute [local go_sem] Oper.semAt_some
theorem Strs.cell {w : World} {p : Option Addr} {n c : Nat} {xs : List ByteArray} (h : Strs w (.slice p n c) xs) (hne : xs ≠ []) : ∃ bk o, p = some ⟨bk, o, none⟩ ∧ bk < w.heap.size ∧ ∀ (j : Nat) x, xs[j]? = some x → w.cell? ⟨bk, o + j, none⟩ = some (.string x) := by
  obtain ⟨p', c', hv, _, h⟩ := h
  cases hv
  rcases h with h | h
  · exact absurd h hne
  · exact h
end Go.Proofs.YthicdhnjincflaaGreatDoor
/- proof.Check: the tests ahead of the walk. -/
namespace Go.Proofs.YthicdhnjincflaaGreatDoor
open Go.RowKit Go.Shelf Go.Lib
attribute [local go_sem] Oper.semAt_some
end Go.Proofs.YthicdhnjincflaaGreatDoor
/- proof.Check: the walk. -/
namespace Go.Proofs.YthicdhnjincflaaGreatDoor
open Go.RowKit Go.Shelf Go.Lib
attribute [local go_sem] Oper.semAt_some
set_option maxHeartbeats 1600000 in
theorem rlpText_any (s : List UInt8) (w : World) : Calls Tryz.prog 26 #[.string ⟨s.toArray⟩] w fun e w' => e = .returned (.agg #[.bool false, .string ⟨s.toArray⟩, .slice none 0 0]) ∧ Below w.heap.size w w' := by
  go_enter Tryz.func26, Tryz.ntmps26
  go_wp2_with fail
  refine bodyPost_ret (results_cells rfl _ _ w.heap.size [.bool false, .string ⟨s.toArray⟩, .slice none 0 0] _ (by rfl) (HasCells.new w [.bool false, .string ⟨s.toArray⟩, .slice none 0 0] 46).range Tryz.underlying46 rfl infoItemS) rfl ?_
  exact ⟨rfl, laid1 w _⟩
/-- what stands between two rounds of Check's walk -/
def RoundC (B wb z : Nat) (root : List UInt8) (path : List UInt8) (l : List (List UInt8)) (gg : Nat) (W : World) : Prop :=
  ∃ (f : Nat) (y : Item) (pth : List UInt8) (rest : List (List UInt8)) (xp : Option Addr) (xn xc : Nat) (q : Option Addr) (c : Nat),
    pth.length ≤ gg ∧ pth.length < f ∧ underP keccakL f y pth rest = underP keccakL 129 (txtI root) path l ∧ isPath pth = true ∧ pth.length ≤ 128 ∧
    HasCells W wb [.string ⟨pth.toArray⟩, .slice q rest.length c, .string ⟨#[]⟩] 56 ∧ HasCells W z [.bool y.isList, .string ⟨y.text.toArray⟩, .slice xp xn xc] 46 ∧
    RZ z W (.slice xp xn xc) y.list ∧ (y.isList = true → Small y) ∧ StrsB B W (.slice q rest.length c) (rest.map bt) ∧ (∀ t ∈ rest, t.length ≤ 65536) ∧ rest.length ≤ 140 ∧ (∀ W', Below B W W' → KecT W') ∧ B ≤ wb ∧ wb < z
theorem nodeOf_rest {ref x : Item} {rest rest2 : List (List UInt8)} (h : nodeOf keccakL ref rest = some (x, rest2)) : rest2 = rest ∨ ∃ s, rest = s :: rest2 := by
  have h2 := (node_node keccakL h).2
  unfold openP at h2
  split at h2
  · simp only [Option.some.injEq, Prod.mk.injEq] at h2
    exact .inl h2.2.symm
  · split at h2
    · cases h2
    · rename_i s r
      split at h2
      · simp only [Option.some.injEq, Prod.mk.injEq] at h2
        exact .inr ⟨s, by rw [h2.2]⟩
      · cases h2
theorem RoundC.start {root path s : List UInt8} {l : List (List UInt8)} {n c : Nat} {p : Option Addr} {w1 w2 w3 : World} (hn : l.length = n) (hp : path.length ≤ 128) (hip : isPath path = true)
    (hs : StrsB w1.heap.size w1 (.slice p (n + 1) c) ((s :: l).map bt)) (hb2 : Below w1.heap.size w1 w2)
    (hb3 : Below (w2.alloc (.cells #[.string ⟨path.toArray⟩, .slice p (n + 1) c, .string ⟨#[]⟩] 56)).heap.size (w2.alloc (.cells #[.string ⟨path.toArray⟩, .slice p (n + 1) c, .string ⟨#[]⟩] 56)) w3)
    (h64 : ∀ t ∈ s :: l, t.length ≤ 65536) (h140 : (s :: l).length ≤ 140) (hK : KecT w1) :
    RoundC w1.heap.size w2.heap.size w3.heap.size root path (s :: l) 128 (w3.alloc (.cells #[.bool false, .string ⟨root.toArray⟩, .slice none 0 0] 46)) ∧ Below w1.heap.size w1 (w3.alloc (.cells #[.bool false, .string ⟨root.toArray⟩, .slice none 0 0] 46)) := by
  subst hn
  have hb23 : Below w1.heap.size w1 w3 := hb2.trans (((laid1 w2 _).mono hb2.size).trans (hb3.mono (by have := hb2.size; simp; omega)))
  refine ⟨?_, hb23.alloc hb23.size _⟩
  refine ⟨129, txtI root, path, s :: l, none, 0, 0, p, c, hp, by omega, rfl, hip, hp, ?_, HasCells.new w3 [.bool false, .string ⟨root.toArray⟩, .slice none 0 0] _, ReadsIn.nil _ _, fun h => (by cases h), ?_, h64, h140, fun W' hb => hK.belowP ((hb23.alloc hb23.size _).trans hb), hb2.size, ?_⟩
  · exact ((HasCells.new w2 [.string ⟨path.toArray⟩, .slice p (l.length + 1) c, .string ⟨#[]⟩] _).after hb3).alloc _
  · exact hs.below (hb23.alloc hb23.size _)
  · have := hb3.size
    simp at this
    omega
theorem RoundC.next {B wb z : Nat} {root path pth p2 : List UInt8} {l rest rest2 : List (List UInt8)} {y x y2 : Item} {f1 g' : Nat} {xp3 : Option Addr} {xn3 xc3 : Nat} {q2 : Option Addr} {c2 : Nat} {wr w5 : World} {a b u : Value}
    (hnd : nodeOf keccakL y rest = some (x, rest2)) (hst : stepP x pth = .next y2 p2) (hf : pth.length < f1 + 1) (hg : p2.length ≤ g')
    (hun : underP keccakL (f1 + 1) y pth rest = underP keccakL 129 (txtI root) path l) (hu1 : underP keccakL (f1 + 1) y pth rest = underP keccakL f1 y2 p2 rest2) (hpt : isPath pth = true) (h128 : pth.length ≤ 128)
    (hw6 : HasCells w5 wb [.string ⟨p2.toArray⟩, .slice q2 rest2.length c2, .string ⟨#[]⟩] 56) (hz7 : HasCells (w5.alloc (.cells #[.bool y2.isList, .string ⟨y2.text.toArray⟩, .slice xp3 xn3 xc3] 46)) z [a, b, u] 46) (hrz : RZ z w5 (.slice xp3 xn3 xc3) y2.list) (hsm2 : Small x)
    (hst2 : StrsB B w5 (.slice q2 rest2.length c2) (rest2.map bt)) (h64 : ∀ t ∈ rest, t.length ≤ 65536) (h140 : rest.length ≤ 140) (hkt : ∀ W', Below B wr W' → KecT W') (hB5 : B ≤ w5.heap.size) (hBw : B ≤ wb) (hwz : wb < z) (hb5 : Below B wr w5) :
    RoundC B wb z root path l g' ((((w5.alloc (.cells #[.bool y2.isList, .string ⟨y2.text.toArray⟩, .slice xp3 xn3 xc3] 46)).setCell ⟨z, 0, none⟩ (.bool y2.isList)).setCell ⟨z, 1, none⟩ (.string ⟨y2.text.toArray⟩)).setCell ⟨z, 2, none⟩ (.slice xp3 xn3 xc3)) := by
  have hnx := (node_node keccakL hnd).1
  have hsh := step_short hnx hst
  have hb8 := laid1 w5 (.cells #[.bool y2.isList, .string ⟨y2.text.toArray⟩, .slice xp3 xn3 xc3] 46)
  have hb9 := three_at (hb8.mono hB5) (show B ≤ z by omega) (.bool y2.isList) (.string ⟨y2.text.toArray⟩) (.slice xp3 xn3 xc3)
  have hr := nodeOf_rest hnd
  refine ⟨f1, y2, p2, rest2, xp3, xn3, xc3, q2, c2, hg, by omega, hu1.symm.trans hun, hsh.2 hpt, by omega, (hw6.alloc _).threeOther (by omega) _ _ _, ((hz7.set 0 _).set 1 _).set 2 _, ?_, fun _ => (hsm2.child (step_mem hnx hst hpt).1).1, hst2.below hb9, ?_, ?_, ?_, hBw, hwz⟩
  · exact ReadsIn.kept (hrz.below hb8) (fun g _ o hg hc => three_other hc hg.2 _ _ _) (fun g hg => ⟨by simpa using hg.1, hg.2⟩)
  · rcases hr with rfl | ⟨s, rfl⟩
    · exact h64
    · exact fun t ht => h64 t (List.mem_cons_of_mem _ ht)
  · rcases hr with rfl | ⟨s, rfl⟩
    · exact h140
    · simp at h140; omega
  · exact fun W' hb => hkt W' (hb5.trans (hb9.trans hb))
end Go.Proofs.YthicdhnjincflaaGreatDoor
/- Contract of pharosref03.Clash. -/
namespace Go.Proofs.YthicdhnjincflaaGreatDoor
open Go.RowKit Go.Shelf Go.Lib
attribute [local go_sem] Oper.semAt_some
/-- a text's digest -/
def kecB (x : ByteArray) : ByteArray := ⟨(keccakL x.data.toList).toArray⟩
/-- two texts are unlike and have one digest -/
def HasClashK (xs : List ByteArray) : Prop := ∃ s t, s ∈ xs ∧ t ∈ xs ∧ s ≠ t ∧ kecB s = kecB t
theorem HasClashK.places {xs : List ByteArray} (h : HasClashK xs) : ∃ (i k : Nat) (s t : ByteArray), k < i ∧ xs[i]? = some s ∧ xs[k]? = some t ∧ s ≠ t ∧ kecB s = kecB t := by
  obtain ⟨s, t, hs, ht, hn, he⟩ := h
  obtain ⟨i, hi⟩ := List.mem_iff_getElem?.1 hs
  obtain ⟨k, hk⟩ := List.mem_iff_getElem?.1 ht
  rcases Nat.lt_trichotomy i k with h | h | h
  · exact ⟨k, i, t, s, h, hk, hi, fun e => hn e.symm, he.symm⟩
  · subst h
    rw [hi] at hk
    exact absurd (Option.some.inj hk) hn
  · exact ⟨i, k, s, t, h, hi, hk, hn, he⟩
end Go.Proofs.YthicdhnjincflaaGreatDoor
/- proof.Check gives what checkP says, of any root, key and texts. -/
namespace Go.Proofs.YthicdhnjincflaaGreatDoor
open Go.RowKit Go.Shelf Go.Lib
attribute [local go_sem] Oper.semAt_some
end Go.Proofs.YthicdhnjincflaaGreatDoor
